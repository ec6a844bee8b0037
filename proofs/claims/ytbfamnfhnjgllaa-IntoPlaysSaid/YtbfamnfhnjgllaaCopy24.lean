/- Copy: another hearer that stands so. Conditions stand in the statement. -/
import Derived.Test.YtbfamnfhnjgllaaKnown24
import Derived.Laws.EntriesVeiled
namespace Go.Proofs.Ytbfamnfhnjgllaa
open Go.RowKit

set_option maxHeartbeats 800000 in
theorem copy_any {p fn : Nat} {sv : Value} {l : List (Int × ByteArray)} {w : World} (h : InAt w p (.func (.func fn) #[] #[]) sv l) (hl : l.length ≤ 1000) :
    Calls Try.prog 15 #[.pointer (some ⟨p, 0, none⟩)] w fun e w' => ∃ q sv', e = .returned (.pointer (some ⟨q, 0, none⟩)) ∧ InAt w' q (.func (.func fn) #[] #[]) sv' l ∧ w.heap.size ≤ q ∧ q < w'.heap.size ∧ Fr0 w w' := by
  obtain ⟨hb, hr, hap⟩ := h
  have hp := hb.lt
  obtain ⟨A, c, rfl, hnc, _, _⟩ := hr.form
  have cp0 : w.cell? ⟨p, 0, none⟩ = some (.func (.func fn) #[] #[]) := hb.cell 0 rfl
  have cp1 : w.cell? ⟨p, 1, none⟩ = some (.slice A l.length c) := hb.cell 1 rfl
  have hf1 : Fr0 w (w.alloc (.cells #[.func (.func fn) #[] #[], .slice A l.length c] 48)) := (Fr0.refl w).alloc _
  have hq1 : Blk (w.alloc (.cells #[.func (.func fn) #[] #[], .slice A l.length c] 48)) w.heap.size #[.func (.func fn) #[] #[], .slice A l.length c] 48 := Blk.new _ _ _
  have HF := Lib.hid (And.intro hf1 hq1)
  clear hf1 hq1
  go_enter Try.func15, Try.ntmps15
  go_wp2_with fail
  obtain ⟨hf1, hq1⟩ := HF.out
  refine (clone_held (hr.fr0 hf1) (hcells_one _) (by omega)).mono ?_
  rintro e w2 ⟨v, rfl, own2, hf2⟩
  obtain ⟨A2, c2, rfl, _, _, _⟩ := own_form own2
  have hq2 := hq1.fr0 hf2
  have cq : w2.cell? ⟨w.heap.size, 1, none⟩ = some (.slice A l.length c) := hq2.cell 1 rfl
  have fq : w2.frozen? ⟨w.heap.size, 1, none⟩ = false := hq2.free 1
  have hF : Fr0 w w2 := hf1.trans hf2
  have H := Lib.hid (And.intro own2 (And.intro hq2 hF))
  clear hf1 hq1 hf2 own2 hq2 hF hb hr HF
  go_wp2_with fail
  go_ret
  obtain ⟨own2, hq2, hF⟩ := H.out
  have hn := own_ne own2 hq2 (by decide)
  have hs : Fr1 w.heap.size w2 (w2.setCell ⟨w.heap.size, 1, none⟩ (.slice A2 l.length c2)) := (Fr1.refl _ w2).set 1 _
  refine ⟨_, _, rfl, ⟨hq2.set 1 _, Rd.of_own (own_fr own2 hs hn), TyB.of_own (own_fr own2 hs hn)⟩, Nat.le_refl _, ?_, hF.new hs (Nat.le_refl _)⟩
  have := hq2.lt
  simpa using this
end Go.Proofs.Ytbfamnfhnjgllaa
