/- A byte put into a slice of the call's own; what is the call's own, from a lower block on. Conditions stand in the statements. -/
import Derived.Test.YtcbllkkbpjobpaaSl
namespace Go.Proofs.Ytcbllkkbpjobpaa
open Go.RowKit
theorem SlO.low {b0 b1 : Nat} {w : World} {v : Value} {d : List UInt8} (h : SlO b1 w v d) (hb : b0 ≤ b1) : SlO b0 w v d := by
  rcases h with h | ⟨g, off, c, cur, hv, hg, rest⟩
  · exact .inl h
  · exact .inr ⟨g, off, c, cur, hv, by omega, rest⟩
theorem SlO.put {base n c : Nat} {w : World} {A : Option Addr} {d : List UInt8} (h : SlO base w (.slice A n c) d) {j : Nat} (hj : j < d.length) :
    ∃ g off u, A = some ⟨g, off, none⟩ ∧ j < c ∧ w.cell? ⟨g, off + j, none⟩ = some u ∧ w.frozen? ⟨g, off + j, none⟩ = false ∧ ∀ b : UInt8, SlO base (w.setCell ⟨g, off + j, none⟩ (.int .u8 b.toNat)) (.slice A n c) (d.set j b) ∧ Fr (inBlk (.slice A n c)) w (w.setCell ⟨g, off + j, none⟩ (.int .u8 b.toNat)) := by
  rcases h with ⟨_, rfl⟩ | ⟨g, off, c', cur, hv, hb, hg, h1, h2, h3, h4⟩
  · simp at hj
  · injection hv with hA hn hc
    subst hA hc
    subst hn
    have hs : off + j < cur.size := by omega
    refine ⟨g, off, cur[off + j], rfl, by omega, hg.cell _ (Array.getElem?_eq_getElem hs), hg.free _, fun b => ⟨.inr ⟨g, off, c, _, by rw [List.length_set], hb, hg.set (off + j) _, by simpa using h1, by simpa using h2, h3, fun i u hu => ?_⟩, Fr.mono ((Fr1.refl g w).set (off + j) _) (fun k hk => by rw [hk]; rfl)⟩⟩
    rw [byts, List.getElem?_map, List.getElem?_set] at hu
    by_cases hij : j = i
    · subst hij
      rw [if_pos rfl, if_pos hj] at hu
      rw [Array.getElem?_setIfInBounds, if_pos rfl, if_pos hs]
      exact hu
    · rw [if_neg hij] at hu
      rw [Array.getElem?_setIfInBounds, if_neg (by omega)]
      exact h4 i u (by rw [byts, List.getElem?_map]; exact hu)
theorem SlO.new0 {base : Nat} {w : World} (hb : base ≤ w.heap.size) : SlO base (w.alloc (.cells #[] 5)) (.slice (some ⟨w.heap.size, 0, none⟩) 0 0) [] :=
  .inr ⟨w.heap.size, 0, 0, #[], rfl, hb, Blk.new w #[] 5, by simp, Nat.le_refl _, by unfold maxLen; omega, fun j u hu => by cases hu⟩
theorem SlO.thenFr {w w1 w2 : World} {v : Value} {d : List UInt8} (s : SlO w.heap.size w1 v d) (h : Fr0 w w1) (k : Fr (inBlk v) w1 w2) : Fr0 w w2 := Fr.then h k (fun i hi hlt => absurd (s.lo i hi).1 (by omega))
end Go.Proofs.Ytcbllkkbpjobpaa
