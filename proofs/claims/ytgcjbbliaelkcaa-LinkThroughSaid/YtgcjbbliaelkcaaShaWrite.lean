/- Write: bytes behind those that a hash has. Conditions stand in the statements. -/
import Derived.Test.YtgcjbbliaelkcaaShaWake
import Derived.Test.YtgcjbbliaelkcaaShaLaw2
import Derived.Deep.LoopGhost
import Derived.Outline
import Derived.Deep.DeepCutAuto
import Derived.Deep.CutBlock
set_option linter.unusedSimpArgs false
namespace Go.Proofs.Ytgcjbbliaelkcaa
open Go.RowKit

theorem hwrite_nil (bv : Value) (w : World) : Calls Try.prog 48 #[.pointer none, bv] w fun e w' => e = .returned (.tuple #[]) ∧ w = w' := by
  go_enter Try.func48, Try.ntmps48
  go_wp2_with fail
  refine bodyPost_ret (results_none rfl _ _ _) rfl ?_
  exact ⟨rfl, rfl⟩
set_option maxHeartbeats 4000000 in
set_option maxRecDepth 10000 in
theorem hwrite_any {base p : Nat} {w : World} {v bv : Value} {all b : List UInt8} (h : HashV base w p v all) (hr : RdB w bv b) (hy : 0 < b.length → Value.blk bv ≠ some p) (hbw : base ≤ w.heap.size) (hl : all.length + b.length ≤ 1000000) :
    Calls Try.prog 48 #[.pointer (some ⟨p, 0, none⟩), bv] w fun e w' => e = .returned (.tuple #[]) ∧ ∃ v', HashV base w' p v' (all ++ b) ∧ Fr (hOwn p v) w w' ∧ ∀ k, inBlk v' k → inBlk v k ∨ w.heap.size ≤ k := by
  obtain ⟨Ab, cb, rfl, -, -, -⟩ := hr.form
  obtain ⟨A0, c0, rfl, -, -, -⟩ := h.sl.form
  obtain ⟨rl, hrl⟩ : ∃ rl, rl = (hRest all).length := ⟨_, rfl⟩
  rw [show (hRest all).length = rl from hrl.symm] at h ⊢
  have HW := Lib.hid (hwake_any h)
  have d73 := h.blk.cell 73 (hash_73 _ _ _)
  have f73 := h.blk.free 73
  obtain ⟨na, hna⟩ : ∃ n, n = all.length := ⟨_, rfl⟩
  obtain ⟨nb, hnb⟩ : ∃ n, n = b.length := ⟨_, rfl⟩
  rw [← hna] at d73 hl
  rw [← hnb] at hl hr hy ⊢
  have H := Lib.hid h
  have HR := Lib.hid (show RdB w (.slice Ab nb cb) b from hr)
  have HY := Lib.hid hy
  have HNA := Lib.hid hna
  have HNB := Lib.hid hnb
  have HRL := Lib.hid hrl
  clear h hr hy hna hnb hrl
  go_enter Try.func48, Try.ntmps48
  go_upto_region 3 with (go_at_call 61; refine (HW.out).mono ?_; rintro e w' ⟨rfl, rfl⟩)
  have F1 := Lib.hid ((Fr1.refl p w).set 73 (.int .i64 ((na : Int) + (nb : Int))))
  have hlo := (H.out).lo
  have hne := (H.out).sl.ne (H.out).blk (by decide)
  have H1 := Lib.hid (show HashR base (w.setCell ⟨p, 73, none⟩ (.int .i64 ((na : Int) + (nb : Int)))) p (.slice A0 rl c0) (hX all) (hRest all) ((na : Int) + (nb : Int)) from
    ⟨by have hb := ((H.out).blk).set 73 (.int .i64 ((na : Int) + (nb : Int))); rw [hash_set73] at hb; exact hb, (H.out).sl.fr1 F1.out (H.out).blk (by decide), hlo⟩)
  have R1 := Lib.hid (show RdB (w.setCell ⟨p, 73, none⟩ (.int .i64 ((na : Int) + (nb : Int)))) (.slice Ab nb cb) b from (HR.out).fr1 F1.out (fun h0 => HY.out (by rw [HNB.out]; exact h0)))
  have z1 := (F1.out).size
  generalize World.setCell w _ _ = w1 at *
  have d72 := (H1.out).blk.cell 72 (hash_72 _ _ _)
  have HRe := Lib.hid (show (hRest all).length + b.length ≤ 1000000 by
    rw [← HNB.out]
    have h3 : (hRest all).length ≤ all.length := by unfold hRest; simp
    rw [← HNA.out] at h3; omega)
  have HRP := Lib.hid (show (hRest all).length + b.length = rl + nb by rw [← HNB.out, ← HRL.out])
  clear d73 f73
  go_upto_block 0 with (refine list_append_sl rfl _ _ rfl (H1.out).sl rfl (by omega) R1.out rfl HRe.out ?_; intro A1 c1 w2 hS hF hK; have S2 := Lib.hid hS; have F2 := Lib.hid hF; have K2 := Lib.hid hK; have B2 := Lib.hid (((H1.out).blk).fr hF (fun hk => hne p hk rfl)); have d72 := (B2.out).cell 72 (hash_72 _ _ _); have f72 := (B2.out).free 72; rw [HRP.out]; clear hS hF hK)
  obtain ⟨T, hT⟩ : ∃ T, T = all ++ b := ⟨_, rfl⟩
  have HTl := Lib.hid (show T.length = na + nb by rw [hT, List.length_append, HNA.out, HNB.out])
  have HX0 := Lib.hid (show blocksN startH T turnL (na / 64) = hX all by rw [hT, HNA.out]; exact blocksN_app _ _ _ _ _ (by omega))
  have HR0 := Lib.hid (show T.drop (na / 64 * 64) = hRest all ++ b by rw [hT, HNA.out]; exact List.drop_append_of_le_length (by omega))
  have hlo2 : base ≤ p := hlo
  have F3 := Lib.hid ((Fr1.refl p w2).set 72 (.slice A1 (rl + nb) c1))
  have FF := Lib.hid (show Fr (hOwn p (.slice A0 rl c0)) w (w2.setCell ⟨p, 72, none⟩ (.slice A1 (rl + nb) c1)) from
    Fr.trans (Fr.trans (Fr.mono F1.out (fun k hk => .inl hk)) (Fr.mono F2.out (fun k hk => .inr hk))) (Fr.mono F3.out (fun k hk => .inl hk)))
  have H3 := Lib.hid (show HashR base (w2.setCell ⟨p, 72, none⟩ (.slice A1 (rl + nb) c1)) p (.slice A1 (rl + nb) c1) (blocksN startH T turnL (na / 64)) (T.drop (na / 64 * 64)) ((na : Int) + (nb : Int)) from by
    rw [HX0.out, HR0.out]
    refine ⟨?_, ?_, hlo⟩
    · have hb := (B2.out).set 72 (.slice A1 (rl + nb) c1)
      rw [hash_set72] at hb
      exact hb
    · have hs := S2.out
      rw [show (hRest all ++ b).length = rl + nb by rw [List.length_append, HRP.out]] at hs
      exact hs.fr1 F3.out B2.out (by decide))
  have K3 := Lib.hid (show ∀ k, inBlk (.slice A1 (rl + nb) c1) k → inBlk (.slice A0 rl c0) k ∨ w.heap.size ≤ k from fun k hk => by
    rcases (K2.out) k (by rw [show (hRest all ++ b).length = rl + nb by rw [List.length_append, HRP.out]]; exact hk) with h | h
    · exact .inl h
    · exact .inr (by omega))
  have HM := Lib.hid (show rl + nb = (na + nb) - na / 64 * 64 by have := HRL.out; unfold hRest at this; rw [List.length_drop, ← HNA.out] at this; omega)
  have HTE := Lib.hid hT
  clear hT HW H1 R1 d72 f72 F1 F2 F3 S2 K2 B2 HX0 HR0
  generalize World.setCell w2 _ _ = w3 at *
  go_wp2_with fail
  go_loopg [] ((na + nb) / 64 - na / 64) (fun gk wr => ∃ (j : Nat) (A : Option Addr) (m c : Nat), j + gk = (na + nb) / 64 ∧ na / 64 ≤ j ∧ m = (na + nb) - j * 64 ∧ HashR base wr p (.slice A m c) (blocksN startH T turnL j) (T.drop (j * 64)) ((na : Int) + (nb : Int)) ∧ Fr (hOwn p (.slice A0 rl c0)) w wr ∧ (∀ k, inBlk (.slice A m c) k → inBlk (.slice A0 rl c0) k ∨ w.heap.size ≤ k))
  case atStart => exact ⟨na / 64, _, _, _, by omega, Nat.le_refl _, HM.out, H3.out, FF.out, K3.out⟩
  case round =>
    obtain ⟨j, A, m, c, hj, hq, hm, hH, hf, hk⟩ := hrel
    by_cases hlt : 0 < gk
    · have hm64 : 64 ≤ m := by omega
      have R64 := Lib.hid (show (T.drop (j * 64)).length = m by rw [List.length_drop, HTl.out]; omega)
      have HXS := Lib.hid (blocksN_succ startH T turnL j)
      have HDD := Lib.hid (show (T.drop (j * 64)).drop 64 = T.drop ((j + 1) * 64) by rw [List.drop_drop]; congr 1; omega)
      have XO := Lib.hid (blocksN_ok startH_ok T turnL j)
      obtain ⟨X, hX⟩ : ∃ X, X = blocksN startH T turnL j := ⟨_, rfl⟩
      obtain ⟨R, hR⟩ : ∃ R, R = T.drop (j * 64) := ⟨_, rfl⟩
      rw [← hX] at hH HXS XO
      rw [← hR] at hH R64 HXS HDD
      have hsl := hH.sl
      obtain ⟨g, off, rfl, hg⟩ : ∃ g off, A = some ⟨g, off, none⟩ ∧ 0 = 0 := by
        rcases hsl with ⟨hv, _⟩ | ⟨g, off, c', cur, hv, _⟩
        · injection hv with _ hm0 _; omega
        · injection hv with hA _ _; exact ⟨g, off, hA, rfl⟩
      have hcm : m ≤ c ∧ c ≤ maxLen := by
        obtain ⟨A', c', hv, h1, h2, _⟩ := hsl.form
        injection hv with _ h3 h4
        rw [h4]; rw [R64.out] at h1; exact ⟨h1, h2⟩
      have l1 : 64 ≤ c := by omega
      have l3 : (64 : Int) ≤ (c : Int) := by omega
      have l2 : c ≤ 9223372036854775807 := by have := hcm.2; unfold maxLen at this; omega
      have q1 : decide (64 ≤ (m : Int)) = true := by simp; omega
      have q2 : decide (64 ≤ m) = true := by simpa using hm64
      have H := Lib.hid hH
      have HF := Lib.hid hf
      have HKk := Lib.hid hk
      have d72 := hH.blk.cell 72 (hash_72 _ _ _)
      have HJ := Lib.hid (And.intro hj (And.intro hq hm))
      have HGK := Lib.hid hlt
      obtain ⟨n, hn⟩ : ∃ n, n = (na : Int) + (nb : Int) := ⟨_, rfl⟩
      rw [← hn] at H
      have HNN := Lib.hid hn
      clear hX hR hsl hg hcm hH hf hk hj hq hm hlt hn
      go_upto_region 5 with (fail)
      go_cut [] (fun wx => HashR base wx p (.slice (some ⟨g, off, none⟩) m c) (takeN X (R.take 64) turnL) R n ∧ Fr1 p wr wx)
      case first =>
        have hin : 0 + (h8c (takeN X (R.take 64) turnL)).size ≤ (hashC X (.slice (some ⟨g, off, none⟩) m c) n).size := by rw [hash_size]; show 0 + 8 ≤ 74; omega
        obtain ⟨Z, hZ⟩ : ∃ Z, Z = takeN X (R.take 64) turnL := ⟨_, rfl⟩
        rw [← hZ] at hin
        have HTK := Lib.hid (show Calls Try.prog 62 #[.agg (h8c X), .slice (some ⟨g, off, none⟩) 64 c, .pointer (some ⟨p, 8, none⟩)] wr.drew (fun e w' => e = .returned (.agg (h8c Z)) ∧ Fr0 wr.drew w') from by
          rw [hZ]
          refine take_any XO.out (show RdB wr.drew (.slice (some ⟨g, off, none⟩) 64 c) (R.take 64) from ?_) (by rw [List.length_take, R64.out]; omega) turnL (fun W hf i hi => (((H.out).blk.drew).fr0 hf).cell _ (hash_k X _ n hi)) turnL_lt
          have h0 := (H.out).sl.rd
          rw [← R64.out] at h0
          exact (RdB.take h0 (by rw [R64.out]; exact hm64)).fr0 ((Fr0.refl wr).drew))
        have HZZ := Lib.hid hZ
        clear hZ
        have HB := Lib.hid ((H.out).blk.drew)
        have HC8 := Lib.hid (fun j v (hj : (h8c X)[j]? = some v) => show wr.drew.cell? ⟨p, 0 + j, none⟩ = some v from by
          have h8 : j < 8 := by
            rcases Nat.lt_or_ge j (h8c X).size with h | h
            · exact h
            · rw [Array.getElem?_eq_none h] at hj; cases hj
          rw [Nat.zero_add]
          exact ((H.out).blk.drew).cell j (by rw [hash_x _ _ _ h8]; exact hj))
        have hi8 : (Try.prog.info? 119).map (·.size) = some (h8c X).size := by kernel_rfl
        have hiZ : (Try.prog.info? 119).map (·.size) = some (h8c Z).size := by kernel_rfl
        refine wp_region_held_drew (S := (fun _ => True)) (by kernel_rfl) trivial (fun hHeld => ?_)
        have _hI : True := trivial
        clear _hI
        refine takeH (i := 0) rfl (by kernel_rfl) (by kernel_rfl) (by kernel_rfl) (fun _ _ _ h => h) (.inl ⟨rfl, fun W _ => (by go_simp; rfl)⟩) trivial ?_
        try simp only [Act.put, List.setIfInBounds_toArray, List.set_cons_zero, List.set_cons_succ]
        have _hI : True := trivial
        clear _hI
        refine takeH (i := 1) rfl (by kernel_rfl) (by kernel_rfl) (by kernel_rfl) (fun _ _ _ h => h) (.inl ⟨rfl, fun W _ => (by go_simp; rfl)⟩) trivial ?_
        try simp only [Act.put, List.setIfInBounds_toArray, List.set_cons_zero, List.set_cons_succ]
        have _hI : True := trivial
        clear _hI
        refine takeH (i := 2) rfl (by kernel_rfl) (by kernel_rfl) (by kernel_rfl) (fun _ _ _ h => h) (.inl ⟨rfl, fun W _ => (by go_simp; rfl)⟩) trivial ?_
        try simp only [Act.put, List.setIfInBounds_toArray, List.set_cons_zero, List.set_cons_succ]
        have _hI : True := trivial
        clear _hI
        refine takeH (i := 3) rfl (by kernel_rfl) (by kernel_rfl) (by kernel_rfl) (fun _ _ _ h => h) (.inl ⟨rfl, fun W _ => (by go_simp; rfl)⟩) trivial ?_
        try simp only [Act.put, List.setIfInBounds_toArray, List.set_cons_zero, List.set_cons_succ]
        have _hI : True := trivial
        clear _hI
        refine takeH (i := 5) rfl (by kernel_rfl) (by kernel_rfl) (by kernel_rfl) (fun _ _ _ h => h) (.inl ⟨rfl, fun W _ => (by go_simp; rfl)⟩) trivial ?_
        try simp only [Act.put, List.setIfInBounds_toArray, List.set_cons_zero, List.set_cons_succ]
        have _hI : True := trivial
        clear _hI
        refine takeH (i := 6) rfl (by kernel_rfl) (by kernel_rfl) (by kernel_rfl) (fun _ _ _ h => h) (.inl ⟨rfl, fun W _ => (by go_simp; rfl)⟩) trivial ?_
        try simp only [Act.put, List.setIfInBounds_toArray, List.set_cons_zero, List.set_cons_succ]
        have _hI : True := trivial
        clear _hI
        refine takeH (i := 7) rfl (by kernel_rfl) (by kernel_rfl) (by kernel_rfl) (fun _ _ _ h => h) (.inl ⟨rfl, fun W _ => (by go_simp; rfl)⟩) trivial ?_
        try simp only [Act.put, List.setIfInBounds_toArray, List.set_cons_zero, List.set_cons_succ]
        have _hI : True := trivial
        clear _hI
        refine takeH (i := 10) rfl (by kernel_rfl) (by kernel_rfl) (by kernel_rfl) (fun _ _ _ h => h) (.inl ⟨rfl, fun W _ => (by go_simp; rfl)⟩) trivial ?_
        try simp only [Act.put, List.setIfInBounds_toArray, List.set_cons_zero, List.set_cons_succ]
        have _hI : True := trivial
        clear _hI
        refine takeH (i := 11) rfl (by kernel_rfl) (by kernel_rfl) (by kernel_rfl) (fun _ _ _ h => h) (.inl ⟨rfl, fun W _ => (by go_simp; rfl)⟩) trivial ?_
        try simp only [Act.put, List.setIfInBounds_toArray, List.set_cons_zero, List.set_cons_succ]
        have _hI : True := trivial
        clear _hI
        refine takeH (i := 12) rfl (by kernel_rfl) (by kernel_rfl) (by kernel_rfl) (fun _ _ _ h => h) (.inl ⟨rfl, fun W _ => (by go_simp; rfl)⟩) trivial ?_
        try simp only [Act.put, List.setIfInBounds_toArray, List.set_cons_zero, List.set_cons_succ]
        have _hI : True := trivial
        clear _hI
        refine wpAnyH_ready (rs := [4, 8]) (by kernel_rfl) (by simp) (consH rfl rfl (fun K hK => ?_) (consH rfl rfl (fun K hK => ?_) AllReadyH.nil))
        ·
          have _hI : True := trivial
          clear _hI
          refine wp_load_part 119 _ rfl p 0 rfl (h8c X) HC8.out _ Try.underlying119 rfl hi8 ?_
          refine hK.out _ _ trivial ?_
          clear hK
          try simp only [Act.put, List.setIfInBounds_toArray, List.set_cons_zero, List.set_cons_succ]
          have _hI : True := trivial
          clear _hI
          refine wpAnyH_ready (rs := [8]) (by kernel_rfl) (by simp) (consH rfl rfl (fun K hK => ?_) AllReadyH.nil)
          have _hI : True := trivial
          clear _hI
          go_simp
          refine hK.out _ _ trivial ?_
          clear hK
          try simp only [Act.put, List.setIfInBounds_toArray, List.set_cons_zero, List.set_cons_succ]
          have _hI : True := trivial
          clear _hI
          refine wpAnyH_ready (rs := [9]) (by kernel_rfl) (by simp) (consH rfl rfl (fun K hK => ?_) AllReadyH.nil)
          have _hI : True := trivial
          clear _hI
          go_simp
          refine hK.out _ _ trivial ?_
          clear hK
          try simp only [Act.put, List.setIfInBounds_toArray, List.set_cons_zero, List.set_cons_succ]
          have _hI : True := trivial
          clear _hI
          refine wpAnyH_ready (rs := [13]) (by kernel_rfl) (by simp) (consH rfl rfl (fun K hK => ?_) AllReadyH.nil)
          have _hI : True := trivial
          clear _hI
          go_simp
          refine (HTK.out).mono ?_
          rintro e w6 ⟨rfl, hf⟩
          replace HB := Lib.hid ((HB.out).fr0 hf)
          have F6 := Lib.hid (Fr0.trans ((Fr0.refl wr).drew) hf)
          clear hf
          refine hK.out _ _ trivial ?_
          clear hK
          try simp only [Act.put, List.setIfInBounds_toArray, List.set_cons_zero, List.set_cons_succ]
          have _hI : True := trivial
          clear _hI
          refine wpAnyH_ready (rs := [14]) (by kernel_rfl) (by simp) (consH rfl rfl (fun K hK => ?_) AllReadyH.nil)
          have _hI : True := trivial
          clear _hI
          go_simp
          refine hK.out _ _ trivial ?_
          clear hK
          try simp only [Act.put, List.setIfInBounds_toArray, List.set_cons_zero, List.set_cons_succ]
          have _hI : True := trivial
          clear _hI
          refine wpAnyH_ready (rs := [15]) (by kernel_rfl) (by simp) (consH rfl rfl (fun K hK => ?_) AllReadyH.nil)
          have _hI : True := trivial
          clear _hI
          go_simp
          refine hK.out _ _ trivial ?_
          clear hK
          try simp only [Act.put, List.setIfInBounds_toArray, List.set_cons_zero, List.set_cons_succ]
          have _hI : True := trivial
          clear _hI
          refine wpAnyH_ready (rs := [16]) (by kernel_rfl) (by simp) (consH rfl rfl (fun K hK => ?_) AllReadyH.nil)
          have _hI : True := trivial
          clear _hI
          refine wp_store_part ?qty1 ?qex1 ?qey1 ?qho1 ?qgg1 ?qof1 ?qcc1 ?qhx1 ?qhy1 ?qtt1 ?qold1 ?qhb1 ?qhin1 ?qhi1 ?qh11 ?qre1
          case qcc1 => exact (h8c Z)
          case qty1 => exact 119
          case qtt1 => exact 124
          case qgg1 => exact p
          case qof1 => exact 0
          case qold1 => exact (hashC X (.slice (some ⟨g, off, none⟩) m c) n)
          case qex1 => exact (.tmp 47)
          case qey1 => exact (.tmp 45)
          case qho1 => rfl
          case qhb1 => exact HB.out
          case qhin1 => exact hin
          case qhi1 => exact hiZ
          case qh11 => exact h8_one Z
          case qhx1 => rfl
          case qhy1 => rfl
          intro W9 hB hF
          refine hK.out _ _ trivial ?_
          clear hK
          try simp only [Act.put, List.setIfInBounds_toArray, List.set_cons_zero, List.set_cons_succ]
          refine wpAnyH_done (by kernel_rfl) ?_ _
          go_wp2_with fail
          go_meet
          rw [hash_setX] at hB
          rw [← HZZ.out]
          exact ⟨⟨hB, ((H.out).sl.fr0 F6.out).fr1 hF HB.out (by decide), (H.out).lo⟩, Fr1.trans (Fr1.of0 F6.out) hF⟩
        ·
          have _hI : True := trivial
          clear _hI
          go_simp
          refine hK.out _ _ trivial ?_
          clear hK
          try simp only [Act.put, List.setIfInBounds_toArray, List.set_cons_zero, List.set_cons_succ]
          have _hI : True := trivial
          clear _hI
          refine wpAnyH_ready (rs := [4, 9]) (by kernel_rfl) (by simp) (consH rfl rfl (fun K hK => ?_) (consH rfl rfl (fun K hK => ?_) AllReadyH.nil))
          ·
            have _hI : True := trivial
            clear _hI
            refine wp_load_part 119 _ rfl p 0 rfl (h8c X) HC8.out _ Try.underlying119 rfl hi8 ?_
            refine hK.out _ _ trivial ?_
            clear hK
            try simp only [Act.put, List.setIfInBounds_toArray, List.set_cons_zero, List.set_cons_succ]
            have _hI : True := trivial
            clear _hI
            refine wpAnyH_ready (rs := [9]) (by kernel_rfl) (by simp) (consH rfl rfl (fun K hK => ?_) AllReadyH.nil)
            have _hI : True := trivial
            clear _hI
            go_simp
            refine hK.out _ _ trivial ?_
            clear hK
            try simp only [Act.put, List.setIfInBounds_toArray, List.set_cons_zero, List.set_cons_succ]
            have _hI : True := trivial
            clear _hI
            refine wpAnyH_ready (rs := [13]) (by kernel_rfl) (by simp) (consH rfl rfl (fun K hK => ?_) AllReadyH.nil)
            have _hI : True := trivial
            clear _hI
            go_simp
            refine (HTK.out).mono ?_
            rintro e w6 ⟨rfl, hf⟩
            replace HB := Lib.hid ((HB.out).fr0 hf)
            have F6 := Lib.hid (Fr0.trans ((Fr0.refl wr).drew) hf)
            clear hf
            refine hK.out _ _ trivial ?_
            clear hK
            try simp only [Act.put, List.setIfInBounds_toArray, List.set_cons_zero, List.set_cons_succ]
            have _hI : True := trivial
            clear _hI
            refine wpAnyH_ready (rs := [14]) (by kernel_rfl) (by simp) (consH rfl rfl (fun K hK => ?_) AllReadyH.nil)
            have _hI : True := trivial
            clear _hI
            go_simp
            refine hK.out _ _ trivial ?_
            clear hK
            try simp only [Act.put, List.setIfInBounds_toArray, List.set_cons_zero, List.set_cons_succ]
            have _hI : True := trivial
            clear _hI
            refine wpAnyH_ready (rs := [15]) (by kernel_rfl) (by simp) (consH rfl rfl (fun K hK => ?_) AllReadyH.nil)
            have _hI : True := trivial
            clear _hI
            go_simp
            refine hK.out _ _ trivial ?_
            clear hK
            try simp only [Act.put, List.setIfInBounds_toArray, List.set_cons_zero, List.set_cons_succ]
            have _hI : True := trivial
            clear _hI
            refine wpAnyH_ready (rs := [16]) (by kernel_rfl) (by simp) (consH rfl rfl (fun K hK => ?_) AllReadyH.nil)
            have _hI : True := trivial
            clear _hI
            refine wp_store_part ?qty2 ?qex2 ?qey2 ?qho2 ?qgg2 ?qof2 ?qcc2 ?qhx2 ?qhy2 ?qtt2 ?qold2 ?qhb2 ?qhin2 ?qhi2 ?qh12 ?qre2
            case qcc2 => exact (h8c Z)
            case qty2 => exact 119
            case qtt2 => exact 124
            case qgg2 => exact p
            case qof2 => exact 0
            case qold2 => exact (hashC X (.slice (some ⟨g, off, none⟩) m c) n)
            case qex2 => exact (.tmp 47)
            case qey2 => exact (.tmp 45)
            case qho2 => rfl
            case qhb2 => exact HB.out
            case qhin2 => exact hin
            case qhi2 => exact hiZ
            case qh12 => exact h8_one Z
            case qhx2 => rfl
            case qhy2 => rfl
            intro W9 hB hF
            refine hK.out _ _ trivial ?_
            clear hK
            try simp only [Act.put, List.setIfInBounds_toArray, List.set_cons_zero, List.set_cons_succ]
            refine wpAnyH_done (by kernel_rfl) ?_ _
            go_wp2_with fail
            go_meet
            rw [hash_setX] at hB
            rw [← HZZ.out]
            exact ⟨⟨hB, ((H.out).sl.fr0 F6.out).fr1 hF HB.out (by decide), (H.out).lo⟩, Fr1.trans (Fr1.of0 F6.out) hF⟩
          ·
            have _hI : True := trivial
            clear _hI
            go_simp
            refine hK.out _ _ trivial ?_
            clear hK
            try simp only [Act.put, List.setIfInBounds_toArray, List.set_cons_zero, List.set_cons_succ]
            have _hI : True := trivial
            clear _hI
            refine wpAnyH_ready (rs := [4]) (by kernel_rfl) (by simp) (consH rfl rfl (fun K hK => ?_) AllReadyH.nil)
            have _hI : True := trivial
            clear _hI
            refine wp_load_part 119 _ rfl p 0 rfl (h8c X) HC8.out _ Try.underlying119 rfl hi8 ?_
            refine hK.out _ _ trivial ?_
            clear hK
            try simp only [Act.put, List.setIfInBounds_toArray, List.set_cons_zero, List.set_cons_succ]
            have _hI : True := trivial
            clear _hI
            refine wpAnyH_ready (rs := [13]) (by kernel_rfl) (by simp) (consH rfl rfl (fun K hK => ?_) AllReadyH.nil)
            have _hI : True := trivial
            clear _hI
            go_simp
            refine (HTK.out).mono ?_
            rintro e w6 ⟨rfl, hf⟩
            replace HB := Lib.hid ((HB.out).fr0 hf)
            have F6 := Lib.hid (Fr0.trans ((Fr0.refl wr).drew) hf)
            clear hf
            refine hK.out _ _ trivial ?_
            clear hK
            try simp only [Act.put, List.setIfInBounds_toArray, List.set_cons_zero, List.set_cons_succ]
            have _hI : True := trivial
            clear _hI
            refine wpAnyH_ready (rs := [14]) (by kernel_rfl) (by simp) (consH rfl rfl (fun K hK => ?_) AllReadyH.nil)
            have _hI : True := trivial
            clear _hI
            go_simp
            refine hK.out _ _ trivial ?_
            clear hK
            try simp only [Act.put, List.setIfInBounds_toArray, List.set_cons_zero, List.set_cons_succ]
            have _hI : True := trivial
            clear _hI
            refine wpAnyH_ready (rs := [15]) (by kernel_rfl) (by simp) (consH rfl rfl (fun K hK => ?_) AllReadyH.nil)
            have _hI : True := trivial
            clear _hI
            go_simp
            refine hK.out _ _ trivial ?_
            clear hK
            try simp only [Act.put, List.setIfInBounds_toArray, List.set_cons_zero, List.set_cons_succ]
            have _hI : True := trivial
            clear _hI
            refine wpAnyH_ready (rs := [16]) (by kernel_rfl) (by simp) (consH rfl rfl (fun K hK => ?_) AllReadyH.nil)
            have _hI : True := trivial
            clear _hI
            refine wp_store_part ?qty3 ?qex3 ?qey3 ?qho3 ?qgg3 ?qof3 ?qcc3 ?qhx3 ?qhy3 ?qtt3 ?qold3 ?qhb3 ?qhin3 ?qhi3 ?qh13 ?qre3
            case qcc3 => exact (h8c Z)
            case qty3 => exact 119
            case qtt3 => exact 124
            case qgg3 => exact p
            case qof3 => exact 0
            case qold3 => exact (hashC X (.slice (some ⟨g, off, none⟩) m c) n)
            case qex3 => exact (.tmp 47)
            case qey3 => exact (.tmp 45)
            case qho3 => rfl
            case qhb3 => exact HB.out
            case qhin3 => exact hin
            case qhi3 => exact hiZ
            case qh13 => exact h8_one Z
            case qhx3 => rfl
            case qhy3 => rfl
            intro W9 hB hF
            refine hK.out _ _ trivial ?_
            clear hK
            try simp only [Act.put, List.setIfInBounds_toArray, List.set_cons_zero, List.set_cons_succ]
            refine wpAnyH_done (by kernel_rfl) ?_ _
            go_wp2_with fail
            go_meet
            rw [hash_setX] at hB
            rw [← HZZ.out]
            exact ⟨⟨hB, ((H.out).sl.fr0 F6.out).fr1 hF HB.out (by decide), (H.out).lo⟩, Fr1.trans (Fr1.of0 F6.out) hF⟩
      case rest =>
        obtain ⟨hH, hF⟩ := hcut
        have hs := hH.sl
        rw [← R64.out] at hs
        obtain ⟨A2, hsl, hs2, hb2⟩ := sl_from hs (by rw [R64.out]; exact hm64) 64 rfl
        rw [R64.out] at hsl hs2 hb2
        have d72' := hH.blk.cell 72 (hash_72 _ _ _)
        have f72 := hH.blk.free 72
        have HH := Lib.hid hH
        have HF1 := Lib.hid hF
        have HS2 := Lib.hid hs2
        have HB2 := Lib.hid hb2
        clear hH hF hs hs2 hb2 d72
        go_wp2_with fail
        go_roundg (gk - 1)
        case measure => have := HGK.out; omega
        case rel =>
          obtain ⟨hj, hq, hm⟩ := HJ.out
          have hgk := HGK.out
          have F5 := (Fr1.refl p wc).set 72 (.slice A2 (m - 64) (c - 64))
          refine ⟨j + 1, A2, m - 64, c - 64, by omega, by omega, by omega, ⟨?_, ?_, (HH.out).lo⟩, ?_, ?_⟩
          · have hb := ((HH.out).blk).set 72 (.slice A2 (m - 64) (c - 64))
            rw [hash_set72, HNN.out, ← HXS.out] at hb
            exact hb
          · rw [← HDD.out]
            exact (HS2.out).fr1 F5 (HH.out).blk (by decide)
          · exact Fr.trans (Fr.trans HF.out (Fr.mono HF1.out (fun k hk => .inl hk))) (Fr.mono F5 (fun k hk => .inl hk))
          · intro k hk
            exact (HKk.out) k (HB2.out k hk)
    · have hjN : j = (na + nb) / 64 := by omega
      have hm64 : m < 64 := by omega
      have q1 : decide (64 ≤ (m : Int)) = false := by simp; omega
      have q2 : decide (64 ≤ m) = false := by simp; omega
      have d72 := hH.blk.cell 72 (hash_72 _ _ _)
      have HE := Lib.hid (show HashV base wr p (.slice A m c) (all ++ b) from by
        have e := HTE.out
        subst hjN
        unfold HashV hX hRest
        rw [← e, HTl.out, show (((na + nb : Nat) : Int)) = (na : Int) + (nb : Int) from by omega]
        exact hH)
      have HF := Lib.hid hf
      have HKk := Lib.hid hk
      clear hH hf hk hlt hj hq hm hjN
      go_wp2_with fail
      go_end0
      exact ⟨rfl, _, HE.out, HF.out, HKk.out⟩
end Go.Proofs.Ytgcjbbliaelkcaa
