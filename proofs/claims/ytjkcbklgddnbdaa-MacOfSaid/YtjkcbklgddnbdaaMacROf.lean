/- The reference's Of. Conditions stand in the statements. -/
import Derived.Test.YtjkcbklgddnbdaaMacPad
import Derived.Test.YtjkcbklgddnbdaaStepSl
import Derived.Test.YtjkcbklgddnbdaaRd64
set_option linter.unusedSimpArgs false
namespace Go.Proofs.Ytjkcbklgddnbdaa
open Go.RowKit

set_option maxHeartbeats 4000000 in
set_option maxRecDepth 10000 in
theorem rof_any {kv tv : Value} {key text : List UInt8} {w : World} (hk : RdB w kv key) (hkl : key.length ≤ 900000) (ht : RdB w tv text) (htl : text.length ≤ 800000) :
    Calls Try.prog 9 #[kv, tv] w fun e w' => e = .returned (.agg (byts (macN key text)).toArray) ∧ Fr0 w w' := by
  obtain ⟨Ak, ck, rfl, -, -, -⟩ := hk.form
  obtain ⟨At, ct, rfl, -, -, -⟩ := ht.form
  have HT := Lib.hid (show RdB w (.slice At text.length ct) text from ht)
  have HP54 := Lib.hid (fun (W : World) (hf : Fr0 w W) => show Calls Try.prog 19 #[.slice Ak key.length ck, .int .u8 54] W (fun e w' => ∃ A c, e = .returned (.slice A 64 c) ∧ SlO W.heap.size w' (.slice A 64 c) (blockN key 54) ∧ Fr0 W w') from rpad_any 54 (hk.fr0 hf) hkl)
  have HP92 := Lib.hid (fun (W : World) (hf : Fr0 w W) => show Calls Try.prog 19 #[.slice Ak key.length ck, .int .u8 92] W (fun e w' => ∃ A c, e = .returned (.slice A 64 c) ∧ SlO W.heap.size w' (.slice A 64 c) (blockN key 92) ∧ Fr0 W w') from rpad_any 92 (hk.fr0 hf) hkl)
  have HRUN := Lib.hid (fun W => z32_run W)
  have b54 := blockN_len key 54
  have b92 := blockN_len key 92
  have ho2 := z32_size (macN_len key text)
  have hi2 := dig_info (macN_len key text)
  have ha2 := byts_all (macN key text)
  obtain ⟨ino, hin⟩ : ∃ i, i = shaN (blockN key 54 ++ text) := ⟨_, rfl⟩
  have hil : ino.length = 32 := by rw [hin]; exact shaN_len _
  have HRI := Lib.hid (fun (W : World) (v : Value) (h : RdB W v (blockN key 54 ++ text)) => show Calls Try.prog 18 #[v] W (fun e w' => e = .returned (.agg (byts ino).toArray) ∧ Fr0 W w') from by
    rw [hin]
    exact rsum_any h (by rw [List.length_append, b54]; omega))
  have HRS := Lib.hid (fun (W : World) (v : Value) (h : RdB W v (blockN key 92 ++ ino)) => show Calls Try.prog 18 #[v] W (fun e w' => e = .returned (.agg (byts (macN key text)).toArray) ∧ Fr0 W w') from by
    rw [show macN key text = shaN (blockN key 92 ++ ino) from by rw [hin]; rfl]
    exact rsum_any h (by rw [List.length_append, b92, hil]; decide))
  have ho1 := z32_size hil
  have hi1 := dig_info hil
  have ha1 := byts_all ino
  obtain ⟨so, hso⟩ : ∃ s, s = (byts (macN key text)).toArray := ⟨_, rfl⟩
  obtain ⟨si, hsi⟩ : ∃ s, s = (byts ino).toArray := ⟨_, rfl⟩
  obtain ⟨z32, hz32⟩ : ∃ z, z = z32A := ⟨_, rfl⟩
  obtain ⟨s92, hs92⟩ : ∃ s, s = blockN key 92 := ⟨_, rfl⟩
  obtain ⟨s54, hs54⟩ : ∃ s, s = blockN key 54 := ⟨_, rfl⟩
  rw [← hso] at HRS ho2 hi2 ha2
  rw [← hsi] at HRI ho1 hi1 ha1
  rw [← hz32] at HRUN ho1 ho2
  rw [← hs92] at HRS HP92 b92
  rw [← hs54] at HRI HP54 b54
  have HIO := Lib.hid hi2
  have HOO := Lib.hid ho2
  have HII := Lib.hid hi1
  have HOI := Lib.hid ho1
  have HSO := Lib.hid hso
  have HSI := Lib.hid hsi
  have H54 := Lib.hid b54
  have H92 := Lib.hid b92
  have HIL := Lib.hid hil
  obtain ⟨nk, hnk⟩ : ∃ n, n = key.length := ⟨_, rfl⟩
  obtain ⟨nt, hnt⟩ : ∃ n, n = text.length := ⟨_, rfl⟩
  rw [← hnk] at HP54 HP92 ⊢
  rw [← hnt] at HT htl ⊢
  have HNT := Lib.hid hnt
  clear hk hkl ht b54 b92 ho2 hi2 hin hil ho1 hi1 hso hsi hz32 hs92 hs54 hnk hnt
  go_enter Try.func9, Try.ntmps9
  go_upto_region 2 with (first
    | (have _q := C5; refine list_store_blk rfl 25 _ _ rfl g5 si rfl rfl 25 z32 C5.out HII.out HOI.out ha1 ?_; intro w5b hB hF; have V5 := Lib.hid (Blk.drew hB); have V4 := Lib.hid (Blk.drew ((B5.out).fr1 hF (fun e => by have := (B4.out).lt; have := L5.out; omega))); have UF := Lib.hid (Fr0.drew (Fr0.new F5.out hF (by have := (F4.out).size; have := L5.out; omega))); clear hB hF)
    | (have _q := B4; refine list_alloc_blk rfl 25 rfl z32 HRUN.out ?_; intro g5 w5 hB hF hl5; have C5 := Lib.hid hB; have B5 := Lib.hid ((B4.out).fr0 hF); have F5 := Lib.hid (Fr0.trans F4.out hF); have L5 := Lib.hid hl5; clear hB hF hl5)
    | (refine list_alloc_blk rfl 25 rfl z32 HRUN.out ?_; intro g4 w0 hB hF hl4; have B0 := Lib.hid hB; have F0 := Lib.hid hF; have L4 := Lib.hid hl4; clear hB hF hl4)
    | (go_at_call 19; refine (HP54.out _ F0.out).mono ?_; rintro e w1 ⟨A1, c1, rfl, hS, hf⟩; have S1 := Lib.hid hS; have B1 := Lib.hid ((B0.out).fr0 hf); have F1 := Lib.hid (Fr0.trans F0.out hf); have S1s := Lib.hid hf.size; clear hS hf)
    | (refine list_append_sl (base := w0.heap.size) (d := s54) (e := text) rfl _ _ rfl S1.out rfl S1s.out ((HT.out).fr0 F1.out) rfl (by rw [H54.out, ← HNT.out]; omega) ?_; intro A3 c3 w3 hS hF hK; have S3 := Lib.hid (show SlO w0.heap.size w3 (.slice A3 (64 + nt) c3) (s54 ++ text) from by have h := hS; rw [show (s54 ++ text).length = 64 + nt from by rw [List.length_append, H54.out, HNT.out]] at h; exact h); have B3 := Lib.hid ((B1.out).fr hF (fun hk => (S1.out).ne B1.out (by decide) _ hk rfl)); have F3 := Lib.hid (Fr.then F1.out hF (fun i hi hlt => absurd ((S1.out).lo i hi).1 (by have := (F0.out).size; omega))); rw [show s54.length + text.length = 64 + nt from by rw [H54.out, HNT.out]]; clear hS hF hK)
    | (go_at_call 18; refine (HRI.out _ _ (S3.out).rd).mono ?_; rintro e w4 ⟨rfl, hf⟩; have B4 := Lib.hid ((B3.out).fr0 hf); have F4 := Lib.hid (Fr0.trans F3.out hf); clear hf))
  have hl4 := L4.out
  refine wp_region_held_drew (S := (fun _ => True)) (by kernel_rfl) trivial (fun hHeld => ?_)
  have _hI : True := trivial
  clear _hI
  refine takeH (i := 0) rfl (by kernel_rfl) (by kernel_rfl) (by kernel_rfl) (fun _ _ _ h => h) (yields_move rfl _ rfl) trivial ?_
  try simp only [Act.put, List.setIfInBounds_toArray, List.set_cons_zero, List.set_cons_succ]
  have _hI : True := trivial
  clear _hI
  refine takeH (i := 2) rfl (by kernel_rfl) (by kernel_rfl) (by kernel_rfl) (fun _ _ _ h => h) (v := .slice (some ⟨g5, 0, none⟩) 32 32) (.inl ⟨rfl, fun W _ => (by go_simp; try rfl)⟩) trivial ?_
  try simp only [Act.put, List.setIfInBounds_toArray, List.set_cons_zero, List.set_cons_succ]
  have _hI : True := trivial
  clear _hI
  refine wpAnyH_ready (rs := [1]) (by kernel_rfl) (by simp) (consH rfl rfl (fun K hK => ?_) AllReadyH.nil)
  have _hI : True := trivial
  clear _hI
  go_simp
  refine (HP92.out _ UF.out).mono ?_
  rintro e w6 ⟨A6, c6, rfl, hS, hf⟩
  have S6 := Lib.hid hS
  have U5 := Lib.hid ((V5.out).fr0 hf)
  have U4 := Lib.hid ((V4.out).fr0 hf)
  have F6 := Lib.hid (Fr0.trans UF.out hf)
  have U6 := Lib.hid hf.size
  clear hS hf
  refine hK.out _ _ trivial ?_
  clear hK
  try simp only [Act.put, List.setIfInBounds_toArray, List.set_cons_zero, List.set_cons_succ]
  have _hI : True := trivial
  clear _hI
  refine wpAnyH_ready (rs := [3]) (by kernel_rfl) (by simp) (consH rfl rfl (fun K hK => ?_) AllReadyH.nil)
  have _hI : True := trivial
  clear _hI
  refine wp_append_sl (base := w5b.drew.heap.size) (d := s92) (e := ino) _ _ rfl S6.out rfl U6.out (by have hb := U5.out; rw [HSI.out] at hb; exact rd64 hb HIL.out (by decide)) rfl (by rw [H92.out, HIL.out]; decide) ?_
  intro A7 c7 w7 hS hF hK2
  have S7 := Lib.hid (show SlO w5b.drew.heap.size w7 (.slice A7 96 c7) (s92 ++ ino) from by have h := hS; rw [show (s92 ++ ino).length = 96 from by rw [List.length_append, H92.out, HIL.out]] at h; exact h)
  have W4 := Lib.hid ((U4.out).fr hF (fun hk => (S6.out).ne U4.out (by decide) _ hk rfl))
  have F7 := Lib.hid (Fr.then F6.out hF (fun i hi hlt => absurd ((S6.out).lo i hi).1 (by have := (UF.out).size; omega)))
  rw [show s92.length + ino.length = 96 from by rw [H92.out, HIL.out]]
  clear hS hF hK2
  refine hK.out _ _ trivial ?_
  clear hK
  try simp only [Act.put, List.setIfInBounds_toArray, List.set_cons_zero, List.set_cons_succ]
  have _hI : True := trivial
  clear _hI
  refine wpAnyH_ready (rs := [4]) (by kernel_rfl) (by simp) (consH rfl rfl (fun K hK => ?_) AllReadyH.nil)
  have _hI : True := trivial
  clear _hI
  go_simp
  refine (HRS.out _ _ (S7.out).rd).mono ?_
  rintro e w8 ⟨rfl, hf⟩
  have X4 := Lib.hid ((W4.out).fr0 hf)
  have F8 := Lib.hid (Fr0.trans F7.out hf)
  clear hf
  refine hK.out _ _ trivial ?_
  clear hK
  try simp only [Act.put, List.setIfInBounds_toArray, List.set_cons_zero, List.set_cons_succ]
  have _hI : True := trivial
  clear _hI
  refine wpAnyH_ready (rs := [5]) (by kernel_rfl) (by simp) (consH rfl rfl (fun K hK => ?_) AllReadyH.nil)
  have _hI : True := trivial
  clear _hI
  refine wp_store_blk ?qty1 ?qex1 ?qey1 ?qho1 ?qgg1 ?qcc1 ?qhx1 ?qhy1 ?qtt1 ?qold1 ?qhb1 ?qhi1 ?qhd1 ?qh11 ?qre1
  case qcc1 => exact so
  case qty1 => exact 25
  case qtt1 => exact 25
  case qgg1 => exact g4
  case qold1 => exact z32
  case qex1 => exact (.tmp 4)
  case qey1 => exact (.tmp 15)
  case qho1 => rfl
  case qhb1 => exact X4.out
  case qhi1 => exact HIO.out
  case qhd1 => exact HOO.out
  case qh11 => exact ha2
  case qhx1 => rfl
  case qhy1 => rfl
  intro V hB hf
  have VB := Lib.hid hB
  have VF := Lib.hid (Fr0.new F8.out hf hl4)
  clear hf hB
  refine hK.out _ _ trivial ?_
  clear hK
  try simp only [Act.put, List.setIfInBounds_toArray, List.set_cons_zero, List.set_cons_succ]
  refine wpAnyH_done (by kernel_rfl) ?_ _
  have VBO := VB.out
  go_wp2_with fail
  refine bodyPost_ret (v := .agg so) (results_cell_row rfl _ _ g4 25 so (0, 0) _ rfl VBO Try.underlying25 rfl HIO.out) rfl ⟨by rw [HSO.out], VF.out⟩
end Go.Proofs.Ytjkcbklgddnbdaa
