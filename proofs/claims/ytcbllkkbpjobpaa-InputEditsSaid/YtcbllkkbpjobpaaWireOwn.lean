/- Readers and slices of the call's own: forms at hand. Conditions stand in the statements. -/
import Derived.Test.YtcbllkkbpjobpaaWireRNum
namespace Go.Proofs.Ytcbllkkbpjobpaa
open Go.RowKit

theorem rdr_of_open {w : World} {p base : Nat} {v : Value} {d : List UInt8} {e : Int} (hb : Blk w p #[v, .int .i64 e] 70) (hown : w.ownsRow base 5 1 v d.length (byts d)) : ∃ A c, RdrV w p A c d e := by
  obtain ⟨A, c, rfl, _⟩ := own_form hown
  exact ⟨A, c, hb, RdB.of_own hown, TyB.of_own hown⟩

/-- Open, the reader under a name. -/
theorem openR_any {v : Value} {d : List UInt8} {w : World} (h : RdB w v d) (hn : d.length ≤ 100000000) :
    Calls Try.prog 29 #[v] w fun e w' => ∃ p A c, e = .returned (.pointer (some ⟨p, 0, none⟩)) ∧ RdrV w' p A c d 0 ∧ Fr0 w w' ∧ w.heap.size ≤ p ∧ p < w'.heap.size := by
  refine (open_any h hn).mono ?_
  rintro e w' ⟨p, v', rfl, hb, hown, hf, hp⟩
  obtain ⟨A, c, hr⟩ := rdr_of_open hb hown
  exact ⟨p, A, c, rfl, hr, hf, hp, hb.lt⟩

end Go.Proofs.Ytcbllkkbpjobpaa
