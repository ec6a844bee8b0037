/- The reference's Text. Conditions stand in the statements. -/
import Derived.Test.YtcbllkkbpjobpaaWireRefN
import Derived.Test.YtcbllkkbpjobpaaWireTx
namespace Go.Proofs.Ytcbllkkbpjobpaa
open Go.RowKit

set_option maxHeartbeats 400000 in
theorem refText_any {v : Value} {d : List UInt8} {w : World} (h : RdB w v d) (hn : d.length ≤ 100000000) :
    Calls Try.prog 52 #[v] w fun e w' => ∃ v', e = .returned v' ∧ w'.ownsRow w.heap.size 5 1 v' (textForm d).length (byts (textForm d)) ∧ Fr0 w w' := by
  obtain ⟨A, c, rfl, hnc, hcm, hnone⟩ := h.form
  obtain ⟨i0, hiW, hz0, hz1, hz2⟩ := info_parts infoU8
  have hN := Lib.hid (refNum_any d.length (by omega) w)
  have hw : IntKind.u64.wrap (d.length : Int) = d.length := by show (d.length : Int) % 18446744073709551616 = _; omega
  have hl := form_len_le (n := d.length) (by omega)
  have hb : byts (textForm d) = byts (form d.length) ++ byts d := by simp [textForm, byts]
  have hbl : (textForm d).length = (form d.length).length + d.length := by simp [textForm]
  have HB := Lib.hid hb
  have HBL := Lib.hid hbl
  have H := Lib.hid h
  have Hi := Lib.hid hiW
  clear hb hbl h hiW
  go_enter Try.func52, Try.ntmps52
  go_wp2_with (first | (go_at_call 51; refine (hN.out).mono ?_; rintro e w1 ⟨v1, rfl, hown, hf⟩; have Ho := Lib.hid hown; have Hf := Lib.hid hf; clear hown hf) | (at_builtin; refine wpList_append_rd _ rfl _ _ 26 rfl w.heap.size 5 i0 (.int .u8 0) 1 1 Try.underlying26 Hi.out hz0 hz1 hz2 rfl (by decide) _ _ _ rfl Ho.out _ d.length (byts d) rfl ((H.out).fr0 Hf.out) (byts_one d) (by unfold maxLen; omega) (by omega) Hf.out.size ?_; intro v' w2 hown' hgrow))
  go_ret
  refine ⟨v', rfl, ?_, Fr.grown Hf.out hgrow (fun k hk => .inr (own_lt' Ho.out k hk).1)⟩
  rw [HBL.out, HB.out]
  exact hown'
end Go.Proofs.Ytcbllkkbpjobpaa
