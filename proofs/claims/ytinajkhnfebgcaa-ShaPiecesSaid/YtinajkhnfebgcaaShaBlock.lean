/- A block, taken into eight words, the words of its turns made anew. Conditions stand in the statements. -/
import Derived.Test.YtinajkhnfebgcaaShaBlk0
set_option linter.unusedSimpArgs false
namespace Go.Proofs.Ytinajkhnfebgcaa
open Go.RowKit

set_option maxHeartbeats 1000000 in
set_option maxRecDepth 10000 in
theorem block_any {x : H8} {d : List UInt8} {w : World} (hx : x.ok) (hd : d.length = 64) :
    Calls Try.prog 16 #[.agg (h8c x), .agg (byts d).toArray] w fun e w' => e = .returned (.agg (h8c (takeN x d turnL))) ∧ Fr0 w w' := by
  have HX := Lib.hid hx
  have HD := Lib.hid hd
  have HT := Lib.hid (fun W => turns_any W)
  obtain ⟨xs, hxs⟩ : ∃ xs, xs = h8c x := ⟨_, rfl⟩
  obtain ⟨ds, hds⟩ : ∃ ds, ds = (byts d).toArray := ⟨_, rfl⟩
  rw [← hxs, ← hds]
  have HXS := Lib.hid hxs
  have HDS := Lib.hid hds
  have B2 := Lib.hid (((Blk.new w xs 32).alloc (.cells ds 33)).alloc (.cells (wA 8 []) 32))
  clear hx hd hxs hds
  go_enter Try.func16, Try.ntmps16
  have hi64 : (Try.prog.info? 36).map (·.size) = some (wA 64 turnL).size := by rw [wA_size (Nat.le_of_eq turnL_len)]; kernel_rfl
  have ho64 : (wA 64 []).size = (wA 64 turnL).size := by rw [wA_size (l := turnL) (Nat.le_of_eq turnL_len), wA_size (l := []) (Nat.zero_le _)]
  have h64 := wA_one 64 turnL
  obtain ⟨ks, hks⟩ : ∃ ks, ks = wA 64 turnL := ⟨_, rfl⟩
  rw [← hks] at HT hi64 ho64 h64
  have HKS := Lib.hid hks
  clear hks
  go_upto_region 2 with (first
    | (go_at_call 31; refine (HT.out _).mono ?_; rintro e w1 ⟨rfl, hf⟩; have F1 := Lib.hid hf; clear hf)
    | (refine list_store_blk rfl 36 _ _ rfl _ ks rfl rfl 36 (wA 64 []) (Blk.new _ _ _) hi64 ho64 h64 ?_; intro W3 hB hF))
  obtain ⟨g5, hg5⟩ : ∃ g, g = w1.heap.size := ⟨_, rfl⟩
  rw [← hg5] at hB hF ⊢
  simp only [Act.put]
  have z1 := (F1.out).size
  have z2 := hF.size
  simp at z1 z2
  have hXS := HXS.out
  have hDS := HDS.out
  have hKS := HKS.out
  subst hXS hDS
  have FA := Lib.hid (Fr0.trans ((((Fr0.refl w).alloc (.cells (h8c x) 32)).alloc (.cells (byts d).toArray 33)).alloc (.cells (wA 8 []) 32)) F1.out)
  have FW := Lib.hid (Fr0.new ((FA.out).alloc (.cells (wA 64 []) 36)) hF (by have := (FA.out).size; omega))
  replace B2 := Lib.hid ((((B2.out).fr0 F1.out).alloc (.cells (wA 64 []) 36)).fr1 hF (by omega))
  have B3 := Lib.hid ((((((show Blk ((w.alloc (.cells (h8c x) 32)).alloc (.cells (byts d).toArray 33)) (w.heap.size + 1) (byts d).toArray 33 from by
    have h := Blk.new (w.alloc (.cells (h8c x) 32)) (byts d).toArray 33
    rw [show (w.alloc (.cells (h8c x) 32)).heap.size = w.heap.size + 1 from Array.size_push _] at h
    exact h)).alloc (.cells (wA 8 []) 32)).fr0 F1.out).alloc (.cells (wA 64 []) 36)).fr1 hF (by omega))
  have B4 := Lib.hid (((((show Blk (((w.alloc (.cells (h8c x) 32)).alloc (.cells (byts d).toArray 33)).alloc (.cells (wA 8 []) 32)) (w.heap.size + 2) (wA 8 []) 32 from by
    have h := Blk.new ((w.alloc (.cells (h8c x) 32)).alloc (.cells (byts d).toArray 33)) (wA 8 []) 32
    rw [show ((w.alloc (.cells (h8c x) 32)).alloc (.cells (byts d).toArray 33)).heap.size = w.heap.size + 2 from by simp] at h
    exact h)).fr0 F1.out).alloc (.cells (wA 64 []) 36)).fr1 hF (by omega))
  rw [hKS] at hB
  have HTK := Lib.hid (fun (W : World) (hf : Fr0 W3 W) => show Calls Try.prog 32 #[.agg (h8c x), .slice (some ⟨w.heap.size + 1, 0, none⟩) 64 64, .pointer (some ⟨g5, 0, none⟩)] W (fun e w' => e = .returned (.agg (h8c (takeN x d turnL))) ∧ Fr0 W w') from
    take_any HX.out (show RdB W (.slice (some ⟨w.heap.size + 1, 0, none⟩) 64 64) d from by
      have h := (B3.out).fr0 hf
      unfold RdB
      rw [HD.out]
      exact ⟨by rw [byts_len, HD.out], ⟨_, _, rfl, Nat.le_refl _, by unfold maxLen; omega, fun h => by cases h⟩, fun _ => ⟨w.heap.size + 1, 0, 64, _, _, _, rfl, h, fun j u hu => by simpa using hu⟩⟩) HD.out turnL (fun W' hf' i hi => by
      have h := (Blk.fr0 hB (Fr0.trans hf hf')).cell i (wA_at (l := turnL) hi)
      simpa using h) turnL_lt)
  clear hB hF hKS F1 FA hg5
  replace B2 := Lib.hid ((B2.out).drew)
  replace B4 := Lib.hid ((B4.out).drew)
  have FT := Lib.hid ((Fr0.refl W3).drew)
  replace FW := Lib.hid ((FW.out).drew)
  obtain ⟨Z, hZ⟩ : ∃ Z, Z = takeN x d turnL := ⟨_, rfl⟩
  rw [← hZ] at HTK
  have HZZ := Lib.hid hZ
  clear hZ
  have hi8 : (Try.prog.info? 32).map (·.size) = some (h8c x).size := by kernel_rfl
  have hiZ : (Try.prog.info? 32).map (·.size) = some (h8c Z).size := by kernel_rfl
  have l3 : w.heap.size + 3 ≤ W3.drew.heap.size := by show w.heap.size + 3 ≤ W3.heap.size; omega
  refine wp_region_held_drew (S := (fun W => Blk W w.heap.size (h8c x) 32)) (by kernel_rfl) B2.out (fun hHeld => ?_)
  have _hI : True := trivial
  clear _hI
  refine wpAnyH_take (i := 0) rfl (by kernel_rfl) (by kernel_rfl) (by kernel_rfl) (fun _ _ _ h => h) (yields_load_blk rfl 32 _ rfl w.heap.size rfl 32 (h8c x) (fun _ h => h) _ Try.underlying32 rfl hi8) B2.out ?_
  try simp only [Act.put, List.setIfInBounds_toArray, List.set_cons_zero, List.set_cons_succ]
  have _hI : True := trivial
  clear _hI
  refine wpAnyH_take (i := 1) rfl (by kernel_rfl) (by kernel_rfl) (by kernel_rfl) (fun _ _ _ h => h) (.inl ⟨rfl, fun W _ => (by go_simp; rfl)⟩) B2.out ?_
  try simp only [Act.put, List.setIfInBounds_toArray, List.set_cons_zero, List.set_cons_succ]
  have _hI : True := trivial
  clear _hI
  refine wpAnyH_ready (rs := [2]) (by kernel_rfl) (by simp) (consH rfl rfl (fun K hK => ?_) AllReadyH.nil)
  have _hI : True := trivial
  clear _hI
  go_simp
  refine (HTK.out _ FT.out).mono ?_
  rintro e w6 ⟨rfl, hf⟩
  replace B2 := Lib.hid ((B2.out).fr0 hf)
  replace B4 := Lib.hid ((B4.out).fr0 hf)
  replace FW := Lib.hid (Fr0.trans FW.out hf)
  clear hf
  refine hK.out _ _ (B2.out) ?_
  clear hK
  try simp only [Act.put, List.setIfInBounds_toArray, List.set_cons_zero, List.set_cons_succ]
  have _hI : True := trivial
  clear _hI
  refine wpAnyH_ready (rs := [3]) (by kernel_rfl) (by simp) (consH rfl rfl (fun K hK => ?_) AllReadyH.nil)
  have _hI : True := trivial
  clear _hI
  refine wp_store_blk ?qty1 ?qex1 ?qey1 ?qho1 ?qgg1 ?qcc1 ?qhx1 ?qhy1 ?qtt1 ?qold1 ?qhb1 ?qhi1 ?qhd1 ?qh11 ?qre1
  case qcc1 => exact (h8c Z)
  case qty1 => exact 32
  case qtt1 => exact 32
  case qgg1 => exact (w.heap.size + 2)
  case qold1 => exact (wA 8 [])
  case qex1 => exact (.tmp 4)
  case qey1 => exact (.tmp 9)
  case qho1 => rfl
  case qhb1 => exact B4.out
  case qhi1 => exact hiZ
  case qhd1 => rfl
  case qh11 => exact h8_one Z
  case qhx1 => rfl
  case qhy1 => rfl
  intro V4 hB hf
  replace B2 := Lib.hid ((B2.out).fr1 hf (by omega))
  replace FW := Lib.hid (Fr0.new FW.out hf (by omega))
  clear hf
  replace B4 := Lib.hid hB
  clear hB
  refine hK.out _ _ (B2.out) ?_
  clear hK
  try simp only [Act.put, List.setIfInBounds_toArray, List.set_cons_zero, List.set_cons_succ]
  refine wpAnyH_done (by kernel_rfl) ?_ _
  repeat (first | go_values | go_skip | go_step)
  refine bodyPost_ret (v := .agg (h8c Z)) (results_cell_row rfl _ _ (w.heap.size + 2) 32 (h8c Z) (0, 0) _ rfl B4.out Try.underlying32 rfl hiZ) rfl ⟨by rw [HZZ.out], FW.out⟩
end Go.Proofs.Ytinajkhnfebgcaa
