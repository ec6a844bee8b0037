/- mac.Of: the mark of texts under a key. Conditions stand in the statements. -/
import Derived.Test.YtjkcbklgddnbdaaMacBlock
import Derived.Test.YtjkcbklgddnbdaaRd64
import Derived.Test.YtjkcbklgddnbdaaSteps2
set_option linter.unusedSimpArgs false
namespace Go.Proofs.Ytjkcbklgddnbdaa
open Go.RowKit

/-- Two byte slices, built where they stand. -/
theorem sum_two {w : World} {v1 v2 : Value} {d1 d2 : List UInt8} (h1 : RdB w v1 d1) (h2 : RdB w v2 d2) (hl : d1.length + d2.length ≤ 900000) : Calls Try.prog 11 #[.slice (some ⟨w.heap.size, 0, none⟩) 2 2] (w.alloc (.cells #[v1, v2] 22)) fun e w' => e = .returned (.agg (byts (shaN (d1 ++ d2))).toArray) ∧ Fr0 w w' := by
  have h := sum_any (w := w.alloc (.cells #[v1, v2] 22)) (lv := .slice (some ⟨w.heap.size, 0, none⟩) 2 2) (ds := [d1, d2]) (vs := [v1, v2])
    ⟨rfl, ⟨_, _, rfl, by simp, by unfold maxLen; simp, fun h => by cases h⟩, fun _ => ⟨w.heap.size, 0, 2, _, _, _, rfl, heap_alloc_new w _, fun j u hu => by simpa using hu⟩⟩
    (fun i hi => by
      simp at hi
      rcases (by omega : i = 0 ∨ i = 1) with rfl | rfl
      · exact ⟨v1, rfl, h1.fr0 ((Fr0.refl w).alloc _)⟩
      · exact ⟨v2, rfl, h2.fr0 ((Fr0.refl w).alloc _)⟩) (by simpa using hl)
  refine h.mono ?_
  rintro e w' ⟨rfl, hf⟩
  exact ⟨by simp, Fr0.trans ((Fr0.refl w).alloc _) hf⟩
set_option maxHeartbeats 4000000 in
set_option maxRecDepth 10000 in
theorem mof_any {kv lv : Value} {key : List UInt8} {ds : List (List UInt8)} {vs : List Value} {w : World} (hk : RdB w kv key) (hkl : key.length ≤ 900000) (hr : Rd w 1 lv ds.length vs) (hd : ∀ i (h : i < ds.length), ∃ v, vs[i]? = some v ∧ RdB w v ds[i]) (hl : ds.flatten.length ≤ 800000) :
    Calls Try.prog 8 #[kv, lv] w fun e w' => e = .returned (.agg (byts (macN key ds.flatten)).toArray) ∧ Fr0 w w' := by
  have l63 := hr.le63
  obtain ⟨Ak, ck, rfl, -, -, -⟩ := hk.form
  obtain ⟨Av, cv, rfl, -, -, -⟩ := hr.form
  have HR := Lib.hid hr
  have HD := Lib.hid hd
  have HN := Lib.hid (fun W => hnew_any W)
  have HB54 := Lib.hid (fun (W : World) (hf : Fr0 w W) => show Calls Try.prog 16 #[.slice Ak key.length ck, .int .u8 54] W (fun e w' => ∃ g, e = .returned (.slice (some ⟨g, 0, none⟩) 64 64) ∧ Blk w' g (byts (blockN key 54)).toArray 56 ∧ W.heap.size ≤ g ∧ Fr0 W w') from mblock_any 54 (hk.fr0 hf) hkl)
  have HB92 := Lib.hid (fun (W : World) (hf : Fr0 w W) => show Calls Try.prog 16 #[.slice Ak key.length ck, .int .u8 92] W (fun e w' => ∃ g, e = .returned (.slice (some ⟨g, 0, none⟩) 64 64) ∧ Blk w' g (byts (blockN key 92)).toArray 56 ∧ W.heap.size ≤ g ∧ Fr0 W w') from mblock_any 92 (hk.fr0 hf) hkl)
  have HRUN := Lib.hid (fun W => z32_run W)
  have b54 := blockN_len key 54
  have b92 := blockN_len key 92
  have HMO := Lib.hid (show macN key ds.flatten = shaN (blockN key 92 ++ shaN (blockN key 54 ++ ds.flatten)) from rfl)
  have ho2 := z32_size (macN_len key ds.flatten)
  have hi2 := dig_info (macN_len key ds.flatten)
  have ha2 := byts_all (macN key ds.flatten)
  obtain ⟨ino, hin⟩ : ∃ i, i = shaN (blockN key 54 ++ ds.flatten) := ⟨_, rfl⟩
  have hil : ino.length = 32 := by rw [hin]; exact shaN_len _
  rw [← hin] at HMO
  have HIN := Lib.hid hin
  have ho1 := z32_size hil
  have hi1 := dig_info hil
  have ha1 := byts_all ino
  have HSU := Lib.hid (fun (W : World) (g6 g8 : Nat) (hf : Fr0 w W) (h6 : Blk W g6 (byts (blockN key 92)).toArray 56) (h8 : Blk W g8 (byts ino).toArray 25) => show Calls Try.prog 11 #[.slice (some ⟨W.heap.size, 0, none⟩) 2 2] (W.alloc (.cells #[.slice (some ⟨g6, 0, none⟩) 64 64, .slice (some ⟨g8, 0, none⟩) 32 32] 22)) (fun e w' => e = .returned (.agg (byts (macN key ds.flatten)).toArray) ∧ Fr0 W w') from by
    rw [HMO.out]
    exact sum_two (rd64 h6 b92 (by decide)) (rd64 h8 hil (by decide)) (by omega))
  obtain ⟨so, hso⟩ : ∃ s, s = (byts (macN key ds.flatten)).toArray := ⟨_, rfl⟩
  obtain ⟨si, hsi⟩ : ∃ s, s = (byts ino).toArray := ⟨_, rfl⟩
  obtain ⟨z32, hz32⟩ : ∃ z, z = z32A := ⟨_, rfl⟩
  obtain ⟨s92, hs92⟩ : ∃ s, s = (byts (blockN key 92)).toArray := ⟨_, rfl⟩
  obtain ⟨s54, hs54⟩ : ∃ s, s = blockN key 54 := ⟨_, rfl⟩
  rw [← hso] at HSU ho2 hi2 ha2
  rw [← hsi] at HSU ho1 hi1 ha1
  rw [← hz32] at HRUN ho1 ho2
  rw [← hs92] at HSU HB92
  rw [← hs54] at HB54 HIN b54
  have HIO := Lib.hid hi2
  have HOO := Lib.hid ho2
  have HII := Lib.hid hi1
  have HOI := Lib.hid ho1
  have HSO := Lib.hid hso
  have HSI := Lib.hid hsi
  have H54 := Lib.hid b54
  obtain ⟨nk, hnk⟩ : ∃ n, n = key.length := ⟨_, rfl⟩
  obtain ⟨nd, hnd⟩ : ∃ n, n = ds.length := ⟨_, rfl⟩
  rw [← hnk] at HB54 HB92 ⊢
  rw [← hnd] at l63 ⊢
  have HND := Lib.hid hnd
  have HL := Lib.hid hl
  clear hk hkl hr hd b54 b92 ho2 hi2 hin hil ho1 hi1 hso hsi hz32 hs92 hs54 hnk hnd hl
  go_enter Try.func8, Try.ntmps8
  go_wp2_with (first
    | (refine list_alloc_blk rfl 25 rfl z32 HRUN.out ?_; intro g4 w0 hB hF hl4; have B0 := Lib.hid hB; have F0 := Lib.hid hF; have L4 := Lib.hid hl4; clear hB hF hl4)
    | (go_at_call 14; refine (HN.out _).mono ?_; rintro e w1 ⟨p, rfl, hv, hf⟩; have H1 := Lib.hid hv; have B1 := Lib.hid ((B0.out).fr0 hf); have F1 := Lib.hid (Fr0.trans F0.out hf); have S1 := Lib.hid hf.size; clear hv hf)
    | (go_at_call 16; refine (HB54.out _ F1.out).mono ?_; rintro e w2 ⟨gb, rfl, hB, hgb, hf⟩; have C2 := Lib.hid hB; have B2 := Lib.hid ((B1.out).fr0 hf); have H2 := Lib.hid (HashV.fr0 H1.out hf); have F2 := Lib.hid (Fr0.trans F1.out hf); have S2 := Lib.hid (Nat.le_trans S1.out hf.size); have LB := Lib.hid hgb; clear hB hf hgb)
    | (go_at_call 15; refine (hwrite_any H2.out (rd64 C2.out H54.out (by decide)) (fun _ hq => by injection hq with hq; have h1 := (H1.out).blk.lt; have h2 := LB.out; have hq : gb = p := hq; omega) S2.out (by rw [H54.out]; decide)).mono ?_; rintro e w3 ⟨rfl, v3, hv, hf, -⟩; have H3 := Lib.hid hv; have F3 := Lib.hid (show Fr0 w w3 from Fr.then F2.out hf (fun q hq hl => by have h1 := (HashR.own_lo H1.out q hq).1; have h2 := (F0.out).size; omega)); have B3 := Lib.hid ((B2.out).fr hf (fun hq => by have h1 := (HashR.own_lo H1.out _ hq).1; have h2 := (B0.out).lt; omega)); have S3 := Lib.hid (Nat.le_trans S2.out hf.size); clear hv hf))
  have hg4 := (B0.out).lt
  have hl4 := L4.out
  have hs0 := (F0.out).size
  obtain ⟨b0, hb0⟩ : ∃ b, b = w0.heap.size := ⟨_, rfl⟩
  rw [← hb0] at H3 S3 hg4 hs0
  have hlo := (H3.out).lo
  clear hb0 H1 S1 H2 S2
  go_loopw [16] (fun v16 wr => ∃ (k : Nat) (v : Value), k ≤ nd ∧ v16 = .int .i64 k ∧ HashV b0 wr p v (s54 ++ (ds.take k).flatten) ∧ Blk wr g4 z32 25 ∧ Fr0 w wr ∧ b0 ≤ wr.heap.size) (fun v16 _ => nd - (intOf v16).toNat)
  case atStart => exact ⟨0, _, Nat.zero_le _, rfl, by have h := H3.out; simp only [List.nil_append] at h; rw [List.take_zero, List.flatten_nil, List.append_nil]; exact h, B3.out, F3.out, S3.out⟩
  case round =>
    obtain ⟨k, v, hk, rfl, hH, hK, hF, hS⟩ := hrel
    have HH := Lib.hid hH
    have HK := Lib.hid hK
    have HF := Lib.hid hF
    have HS := Lib.hid hS
    by_cases hlt : k < nd
    · have hkd : k < ds.length := by rw [← HND.out]; exact hlt
      obtain ⟨ev, he, hrb⟩ := (HD.out) k hkd
      obtain ⟨g, off, hA, hkc, hgl, hcells⟩ := ((HR.out).fr0 hF).cellA hkd
      subst hA
      have dk := hcells 0 ev (by simpa using he)
      simp only [Nat.mul_one, Nat.add_zero] at dk
      obtain ⟨Ae, ce, rfl, -, -, -⟩ := hrb.form
      have i0 : (0 : Int) ≤ (k : Int) := by omega
      have i1 : (k : Int) < (nd : Int) := by omega
      have hfl : (ds.take (k + 1)).flatten = (ds.take k).flatten ++ ds[k] := by rw [List.take_succ_eq_append_getElem hkd, List.flatten_append]; simp
      obtain ⟨de, hde⟩ : ∃ d, d = ds[k] := ⟨_, rfl⟩
      rw [← hde] at hfl dk hrb he
      clear hde
      have hle : (s54 ++ (ds.take k).flatten).length + de.length ≤ 1000000 := by
        have h1 : (ds.take (k + 1)).flatten.length ≤ ds.flatten.length := by
          have h2 := congrArg (fun l => l.flatten.length) (List.take_append_drop (k + 1) ds)
          simp only [List.flatten_append, List.length_append] at h2
          omega
        rw [hfl, List.length_append] at h1
        have := HL.out
        rw [List.length_append, H54.out]
        omega
      have HWr := Lib.hid (hwrite_any hH (hrb.fr0 hF) (fun h0 hp => by have h1 := Rd.blk_lt hrb h0 _ hp; omega) hS hle)
      have HFL := Lib.hid hfl
      obtain ⟨el, hel⟩ : ∃ n, n = de.length := ⟨_, rfl⟩
      rw [← hel] at dk HWr
      clear he hrb hkc hgl hcells hkd hH hK hF hS hfl hle hel
      go_wp2_with (go_at_call 15; refine (HWr.out).mono ?_; rintro e w3 ⟨rfl, v3, hv, hf, -⟩; have H3 := Lib.hid hv; have F3 := Lib.hid (show Fr0 w w3 from Fr.then HF.out hf (fun q hq hl => by have := (HashR.own_lo HH.out q hq).1; omega)); have K3 := Lib.hid ((HK.out).fr hf (fun hq => by have := (HashR.own_lo HH.out _ hq).1; omega)); have S3 := Lib.hid (Nat.le_trans HS.out hf.size); clear hv hf)
      go_roundw
      case measure => simp [intOf]; omega
      case rel => exact ⟨k + 1, v3, by omega, by go_num, by have h := H3.out; rw [List.append_assoc, ← HFL.out] at h; exact h, K3.out, F3.out, S3.out⟩
    · obtain rfl : k = nd := by omega
      have e : ds.take k = ds := List.take_of_length_le (by rw [← HND.out]; omega)
      rw [e] at hH
      have HSm := Lib.hid (show Calls Try.prog 17 #[.pointer (some ⟨p, 0, none⟩)] wr (fun e w' => e = .returned (.agg si) ∧ Fr0 wr w') from by
        rw [HSI.out, HIN.out]
        exact hsum_any hH (by have := HL.out; rw [List.length_append, H54.out]; omega))
      clear e hH hK hF hS hlt hk
      go_upto_region 9 with (first
        | (go_at_call 17; refine (HSm.out).mono ?_; rintro e w4 ⟨rfl, hf⟩; have F4 := Lib.hid (Fr0.trans HF.out hf); have B4 := Lib.hid ((HK.out).fr0 hf); have S4 := Lib.hid hf.size; clear hf)
        | (refine list_alloc_blk rfl 25 rfl z32 HRUN.out ?_; intro g8 w5 hB hF hl8; have C5 := Lib.hid hB; have B5 := Lib.hid ((B4.out).fr0 hF); have F5 := Lib.hid (Fr0.trans F4.out hF); have L8 := Lib.hid hl8; clear hB hF hl8)
        | (refine list_store_blk rfl 25 _ _ rfl g8 si rfl rfl 25 z32 C5.out HII.out HOI.out ha1 ?_; intro w5b hB hF; have V8 := Lib.hid (Blk.drew hB); have V4 := Lib.hid (Blk.drew ((B5.out).fr1 hF (fun e => by have := (B4.out).lt; have := L8.out; omega))); have UF := Lib.hid (Fr0.drew (Fr0.new F5.out hF (by have := (F4.out).size; have := L8.out; omega))); clear hB hF))
      simp only [Act.put]
      refine wp_region_held_drew (S := (fun _ => True)) (by kernel_rfl) trivial (fun hHeld => ?_)
      have _hI : True := trivial
      clear _hI
      refine takeH (i := 0) rfl (by kernel_rfl) (by kernel_rfl) (by kernel_rfl) (fun _ _ _ h => h) (yields_move rfl _ rfl) trivial ?_
      try simp only [Act.put, List.setIfInBounds_toArray, List.set_cons_zero, List.set_cons_succ]
      have _hI : True := trivial
      clear _hI
      refine takeH (i := 2) rfl (by kernel_rfl) (by kernel_rfl) (by kernel_rfl) (fun _ _ _ h => h) (v := .slice (some ⟨g8, 0, none⟩) 32 32) (.inl ⟨rfl, fun W _ => (by go_simp; try rfl)⟩) trivial ?_
      try simp only [Act.put, List.setIfInBounds_toArray, List.set_cons_zero, List.set_cons_succ]
      have _hI : True := trivial
      clear _hI
      refine wpAnyH_ready (rs := [1]) (by kernel_rfl) (by simp) (consH rfl rfl (fun K hK => ?_) AllReadyH.nil)
      have _hI : True := trivial
      clear _hI
      go_simp
      refine (HB92.out _ UF.out).mono ?_
      rintro e w6 ⟨g6, rfl, hB, hg6, hf⟩
      have C6 := Lib.hid hB
      have U8 := Lib.hid ((V8.out).fr0 hf)
      have U4 := Lib.hid ((V4.out).fr0 hf)
      have F6 := Lib.hid (Fr0.trans UF.out hf)
      clear hB hf
      refine hK.out _ _ trivial ?_
      clear hK
      try simp only [Act.put, List.setIfInBounds_toArray, List.set_cons_zero, List.set_cons_succ]
      have _hI : True := trivial
      clear _hI
      refine wpAnyH_ready (rs := [3]) (by kernel_rfl) (by simp) (consH rfl rfl (fun K hK => ?_) AllReadyH.nil)
      have _hI : True := trivial
      clear _hI
      go_simp
      refine hK.out _ _ trivial ?_
      clear hK
      try simp only [Act.put, List.setIfInBounds_toArray, List.set_cons_zero, List.set_cons_succ]
      have _hI : True := trivial
      clear _hI
      refine wpAnyH_ready (rs := [4]) (by kernel_rfl) (by simp) (consH rfl rfl (fun K hK => ?_) AllReadyH.nil)
      have _hI : True := trivial
      clear _hI
      go_simp
      refine (HSU.out _ _ _ F6.out C6.out U8.out).mono ?_
      rintro e w7 ⟨rfl, hf⟩
      have X4 := Lib.hid ((U4.out).fr0 hf)
      have F7 := Lib.hid (Fr0.trans F6.out hf)
      clear hf
      refine hK.out _ _ trivial ?_
      clear hK
      try simp only [Act.put, List.setIfInBounds_toArray, List.set_cons_zero, List.set_cons_succ]
      have _hI : True := trivial
      clear _hI
      refine wpAnyH_ready (rs := [5]) (by kernel_rfl) (by simp) (consH rfl rfl (fun K hK => ?_) AllReadyH.nil)
      have _hI : True := trivial
      clear _hI
      refine wp_store_blk ?qty1 ?qex1 ?qey1 ?qho1 ?qgg1 ?qcc1 ?qhx1 ?qhy1 ?qtt1 ?qold1 ?qhb1 ?qhi1 ?qhd1 ?qh11 ?qre1
      case qcc1 => exact so
      case qty1 => exact 25
      case qtt1 => exact 25
      case qgg1 => exact g4
      case qold1 => exact z32
      case qex1 => exact (.tmp 4)
      case qey1 => exact (.tmp 30)
      case qho1 => rfl
      case qhb1 => exact X4.out
      case qhi1 => exact HIO.out
      case qhd1 => exact HOO.out
      case qh11 => exact ha2
      case qhx1 => rfl
      case qhy1 => rfl
      intro V hB hf
      have VB := Lib.hid hB
      have VF := Lib.hid (Fr0.new F7.out hf hl4)
      clear hf hB
      refine hK.out _ _ trivial ?_
      clear hK
      try simp only [Act.put, List.setIfInBounds_toArray, List.set_cons_zero, List.set_cons_succ]
      refine wpAnyH_done (by kernel_rfl) ?_ _
      have VBO := VB.out
      go_wp2_with fail
      refine bodyPost_ret (v := .agg so) (results_cell_row rfl _ _ g4 25 so (0, 0) _ rfl VBO Try.underlying25 rfl HIO.out) rfl ⟨by rw [HSO.out], VF.out⟩
end Go.Proofs.Ytjkcbklgddnbdaa
