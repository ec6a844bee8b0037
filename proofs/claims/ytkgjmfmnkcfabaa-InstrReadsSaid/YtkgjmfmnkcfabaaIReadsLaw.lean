/- What the reference's Read checks, one by one, is what instr.Read checks: plain lists. No condition. -/
import Derived.Test.YtkgjmfmnkcfabaaInstrLaw
namespace Go.Proofs.Ytkgjmfmnkcfabaa

theorem numI_le {n : Nat} (h : 0 ≤ numI n) : n ≤ 1099511627776 ∧ numI n = n := by
  unfold numI at h ⊢
  split at h
  · rename_i h1; exact ⟨h1, if_pos h1⟩
  · omega
theorem rNum_ok {d : List UInt8} {e : Int} (h : (rNum d e).2.2 = 0) : e = 0 := by
  rcases rNum_cases d e with ⟨_, h1, _, _⟩ | ⟨h1, _⟩
  · exact h1
  · exact absurd h h1
/-- The reference's checks. -/
def refGood (b : List UInt8) : Prop :=
  let a := rNum b 0
  let m := rNum a.2.1 a.2.2
  let k := rNum m.2.1 m.2.2
  let l := rNum k.2.1 k.2.2
  (a.2.2 = 0 ∧ a.1 ≤ 1099511627776) ∧ (m.2.2 = 0 ∧ m.1 ≤ 1099511627776) ∧ (k.2.2 = 0 ∧ k.1 ≤ 1099511627776) ∧ (l.2.2 = 0 ∧ l.1 ≤ 1099511627776) ∧ l.1 ≤ a.1 ∧
    may a.1 ((a.1 + m.1 : Nat) : Int) k.1 ((a.1 - l.1 : Nat) : Int) (rRest l.2.1 l.2.2).1.length = 0
theorem good_iff (b : List UInt8) : iGood b ↔ refGood b := by
  constructor
  · rintro ⟨h1, h2, h3, h4⟩
    obtain ⟨k1, k2, k3, k4, -⟩ := may_zero.1 h4
    unfold okn at k1 k2 k3 k4
    obtain ⟨a1, a2⟩ := numI_le k1.1
    obtain ⟨b1, b2⟩ := numI_le h2
    obtain ⟨c1, c2⟩ := numI_le k3.1
    obtain ⟨d1, d2⟩ := numI_le h3
    rw [a2, b2, c2, d2] at h4
    rw [a2, d2] at k4
    unfold iNums at *
    simp only at *
    have e3 := rNum_ok h1
    have e2 := rNum_ok e3
    have e1 := rNum_ok e2
    have hle : (rNum (rNum (rNum (rNum b 0).2.1 (rNum b 0).2.2).2.1 (rNum (rNum b 0).2.1 (rNum b 0).2.2).2.2).2.1 (rNum (rNum (rNum b 0).2.1 (rNum b 0).2.2).2.1 (rNum (rNum b 0).2.1 (rNum b 0).2.2).2.2).2.2).1 ≤ (rNum b 0).1 := by omega
    refine ⟨⟨e1, a1⟩, ⟨e2, b1⟩, ⟨e3, c1⟩, ⟨h1, d1⟩, hle, ?_⟩
    rw [Int.natCast_add, Int.natCast_sub hle]
    exact h4
  · rintro ⟨⟨e1, a1⟩, ⟨e2, b1⟩, ⟨e3, c1⟩, ⟨e4, d1⟩, hle, hm⟩
    rw [Int.natCast_add, Int.natCast_sub hle] at hm
    unfold iGood iNums
    simp only
    rw [numI_of a1, numI_of b1, numI_of c1, numI_of d1]
    exact ⟨e4, by omega, by omega, hm⟩
end Go.Proofs.Ytkgjmfmnkcfabaa
