/- Readers and slices of the call's own: forms at hand. Conditions stand in the statements. -/
import Derived.Test.YtkgjmfmnkcfabaaWireRNum
namespace Go.Proofs.Ytkgjmfmnkcfabaa
open Go.RowKit

theorem rdr_of_open {w : World} {p base : Nat} {v : Value} {d : List UInt8} {e : Int} (hb : Blk w p #[v, .int .i64 e] 58) (hown : w.ownsRow base 5 1 v d.length (byts d)) : ∃ A c, RdrV w p A c d e := by
  obtain ⟨A, c, rfl, _⟩ := own_form hown
  exact ⟨A, c, hb, RdB.of_own hown, TyB.of_own hown⟩

/-- Open, the reader under a name. -/
theorem openR_any {v : Value} {d : List UInt8} {w : World} (h : RdB w v d) (hn : d.length ≤ 100000000) :
    Calls Try.prog 16 #[v] w fun e w' => ∃ p A c, e = .returned (.pointer (some ⟨p, 0, none⟩)) ∧ RdrV w' p A c d 0 ∧ Fr0 w w' ∧ w.heap.size ≤ p ∧ p < w'.heap.size := by
  refine (open_any h hn).mono ?_
  rintro e w' ⟨p, v', rfl, hb, hown, hf, hp⟩
  obtain ⟨A, c, hr⟩ := rdr_of_open hb hown
  exact ⟨p, A, c, rfl, hr, hf, hp, hb.lt⟩

/-- A piece of the call's own: its value reads as bytes, and its text. -/
theorem own_text {w w0 : World} {v : Value} {d : List UInt8} (h : w.ownsRow w0.heap.size 5 1 v d.length (byts d)) :
    ∃ A c, v = .slice A d.length c ∧ RdB w (.slice A d.length c) d ∧ (convert 22 9 (.slice A d.length c)).run Try.prog w = .ok (.string (str d)) w := by
  obtain ⟨A, c, rfl, _⟩ := own_form h
  exact ⟨A, c, rfl, RdB.of_own h, conv_bytes w _ _ _ Try.underlying22 Try.underlying5 Try.underlying9 (RdB.of_own h)⟩

theorem conv_own {w : World} {A : Option Addr} {c : Nat} {d : List UInt8} (h : RdB w (.slice A d.length c) d) : (convert 22 9 (.slice A d.length c)).run Try.prog w = .ok (.string (str d)) w :=
  conv_bytes w _ _ _ Try.underlying22 Try.underlying5 Try.underlying9 h

/-- The same, the length spelled as asked. -/
theorem own_textN {w w0 : World} {v : Value} {d : List UInt8} {n : Nat} (hn : d.length = n) (h : w.ownsRow w0.heap.size 5 1 v d.length (byts d)) :
    ∃ A c, v = .slice A n c ∧ RdB w (.slice A n c) d ∧ (convert 22 9 (.slice A n c)).run Try.prog w = .ok (.string (str d)) w := by
  subst hn; exact own_text h
theorem conv_ownN {w : World} {A : Option Addr} {c : Nat} {d : List UInt8} {n : Nat} (hn : d.length = n) (h : RdB w (.slice A n c) d) : (convert 22 9 (.slice A n c)).run Try.prog w = .ok (.string (str d)) w := by
  subst hn; exact conv_own h

end Go.Proofs.Ytkgjmfmnkcfabaa
