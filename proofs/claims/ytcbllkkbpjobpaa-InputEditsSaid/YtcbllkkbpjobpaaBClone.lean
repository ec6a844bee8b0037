/- bytes.Clone. Conditions stand in the statements. -/
import Derived.Test.YtcbllkkbpjobpaaBEqual
import Derived.Lib.SliceRun
namespace Go.Proofs.Ytcbllkkbpjobpaa
open Go.RowKit
set_option maxHeartbeats 1000000 in
theorem bclone_any {v : Value} {d : List UInt8} {w : World} (h : RdB w v d) (hn : d.length ≤ 1000000) :
    Calls Try.prog 43 #[v] w fun e w' => ∃ v', e = .returned v' ∧ SlO w.heap.size w' v' d ∧ Fr0 w w' := by
  obtain ⟨A, c, rfl, hnc, -, hnone⟩ := h.form
  cases A with
  | none =>
    have hd : d = [] := List.eq_nil_of_length_eq_zero (by have := hnone rfl; omega)
    subst hd
    obtain rfl : c = 0 := hnone rfl
    clear h
    have he : ∀ W, (binOp .eql 26 (.slice none 0 0) (.slice none 0 0)).run Try.prog W = .ok (.bool true) W := fun W => run_eql_nil_slice W 26 5 none 0 0 0 0 Try.underlying26
    go_enter Try.func43, Try.ntmps43
    go_wp2_with fail
    go_ret
    exact ⟨_, rfl, SlO.nil _ _, Fr0.refl _⟩
  | some a =>
    have H := Lib.hid h
    have HN := Lib.hid hn
    obtain ⟨n, hnl⟩ : ∃ n, n = d.length := ⟨_, rfl⟩
    have HL := Lib.hid hnl
    rw [← hnl] at H hnc ⊢
    clear h hn hnl hnone
    have he : ∀ W, (binOp .eql 26 (.slice (some a) n c) (.slice none 0 0)).run Try.prog W = .ok (.bool false) W := fun W => Lib.run_eql_slice_nil W 26 5 (some a) n c 0 0 Try.underlying26
    go_enter Try.func43, Try.ntmps43
    go_wp2_with (first | (at_builtin; refine list_append_sl (base := w.heap.size) (d := []) (e := d) rfl _ _ rfl (SlO.new0 (Nat.le_refl _)) rfl (by simp) ((H.out).fr0 ((Fr0.refl w).alloc _)) rfl (by have := HN.out; simp; omega) ?_; intro A6 c6 w4 hS hF hK; have S4 := Lib.hid (show SlO w.heap.size w4 (.slice A6 n c6) d from by rw [HL.out]; exact hS); have F4 := Lib.hid ((SlO.new0 (Nat.le_refl _)).thenFr ((Fr0.refl w).alloc _) hF); rw [show ([] : List UInt8).length + d.length = n from by rw [HL.out]; exact Nat.zero_add _]; clear hS hF hK) | (go_at_call 9999; skip))
    go_ret
    exact ⟨_, rfl, S4.out, F4.out⟩
end Go.Proofs.Ytcbllkkbpjobpaa
