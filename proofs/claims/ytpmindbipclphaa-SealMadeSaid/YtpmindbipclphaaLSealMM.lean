/- SealMade: bytes with the tag that is theirs are opened: the law returns true for any key, word and hidden text. No condition. -/
import Derived.Test.YtpmindbipclphaaSealJ3
import Derived.Test.YtpmindbipclphaaWLits
set_option linter.unusedSimpArgs false
set_option linter.unusedVariables false
namespace Go.Proofs.Ytpmindbipclphaa
open Go.RowKit

theorem fix_cells (wd : Nat) (hw : wd < 18446744073709551616) : (byts (fixForm wd 8)).toArray = #[.int .u8 ((wd : Int) / 72057594037927936), .int .u8 ((wd : Int) / 281474976710656 % 256), .int .u8 ((wd : Int) / 1099511627776 % 256), .int .u8 ((wd : Int) / 4294967296 % 256), .int .u8 ((wd : Int) / 16777216 % 256), .int .u8 ((wd : Int) / 65536 % 256), .int .u8 ((wd : Int) / 256 % 256), .int .u8 ((wd : Int) % 256)] := by
  have e : ∀ k : Nat, k < 256 → ((UInt8.ofNat (k % 256)).toNat : Int) = (k : Int) := fun k hk => by rw [UInt8.toNat_ofNat']; omega
  have e2 : ∀ k : Nat, ((UInt8.ofNat (k % 256)).toNat : Int) = ((k % 256 : Nat) : Int) := fun k => by rw [UInt8.toNat_ofNat']; omega
  apply Array.toList_inj.1
  simp only [fixForm, byts, List.map_cons, List.map_nil]
  rw [e _ (by omega), e2, e2, e2, e2, e2, e2, e2]
  simp
theorem made_open (code mark : List UInt8) {wd : Nat} (hw : wd < 18446744073709551616) {hid : List UInt8} (hl : hid.length ≤ 1200) :
    openP code mark ((fixForm wd 8 ++ hid) ++ tagL mark (fixForm wd 8 ++ hid)) = ((ofD wd, ofN wd), tnL code wd hid, 0) := by
  have h1 : (fixForm wd 8 ++ hid).length = 8 + hid.length := by rw [List.length_append, fixForm_len]
  have h2 : ((fixForm wd 8 ++ hid) ++ tagL mark (fixForm wd 8 ++ hid)).length = (fixForm wd 8 ++ hid).length + 16 := by rw [List.length_append, tagL_len]
  have h3 : wdL (fixForm wd 8 ++ hid) = wd := by
    unfold wdL
    have h := rFixed_formS wd 8 (by decide) (by decide) hid
    rw [show (8 : Int) = ((8 : Nat) : Int) from rfl, h]
    exact Nat.mod_eq_of_lt hw
  unfold openP
  rw [if_neg (by rw [h2, h1]; omega), h2, Nat.add_sub_cancel, List.take_left, List.drop_left, if_pos rfl, h3, List.drop_left' (fixForm_len wd 8)]

set_option maxHeartbeats 4000000 in
set_option maxRecDepth 100000 in
theorem sealMade_any {code mark hid : List UInt8} {wd : Nat} {tv : Value} {w : World} (hc : code.length = 16) (hm : mark.length = 32) (hw : wd < 18446744073709551616) (ht : RdB w tv hid) :
    Calls Try.prog 5 #[.agg (byts (code ++ mark)).toArray, .int .u64 (wd : Int), tv] w fun e w' => e = .returned (.bool true) ∧ Fr0 w w' := by
  obtain ⟨At, ct, rfl, -, -, -⟩ := ht.form
  have KN := Lib.hid known06_any
  have HT := Lib.hid ht
  have l63 := Rd.le63 ht
  have HCK := Lib.hid (show (Try.prog.info? 34).map (·.size) = some (byts (code ++ mark)).toArray.size by rw [byts_size, List.length_append, hc, hm]; kernel_rfl)
  have FX := Lib.hid ((Fr0.refl w).alloc (.cells (byts (code ++ mark)).toArray 34))
  have BK := Lib.hid (Blk.new w (byts (code ++ mark)).toArray 34)
  obtain ⟨nt, hnt⟩ : ∃ n, n = hid.length := ⟨_, rfl⟩
  rw [← hnt] at HT l63 ⊢
  by_cases h1 : 1200 < nt
  · obtain ⟨ck, hck⟩ : ∃ c, c = (byts (code ++ mark)).toArray := ⟨_, rfl⟩
    rw [← hck] at BK HCK FX ⊢
    have t1 : decide ((1200 : Int) < (nt : Int)) = true := decide_eq_true (by omega)
    clear h1 hck hc hm hnt ht
    go_enter Try.func5, Try.ntmps5
    go_wp2_with (go_at_call 13; refine (KN.out _).mono ?_; rintro e w1 ⟨rfl, hf⟩; have F1 := Lib.hid (Fr0.trans FX.out hf); clear hf)
    go_ret
    exact ⟨rfl, F1.out⟩
  have t1 : decide ((1200 : Int) < (nt : Int)) = false := decide_eq_false (by omega)
  have hl : hid.length ≤ 1200 := by omega
  obtain ⟨nb, hnb⟩ : ∃ n, n = 8 + nt := ⟨_, rfl⟩
  obtain ⟨m, hmm⟩ : ∃ n, n = nb + 16 := ⟨_, rfl⟩
  have HFX := Lib.hid (fix_cells wd hw)
  have HFL := Lib.hid (fixForm_len wd 8)
  have HBL := Lib.hid (show (fixForm wd 8 ++ hid).length = nb by rw [List.length_append, fixForm_len]; omega)
  have HTG := Lib.hid (fun W A c (hr : RdB W (.slice A nb c) (fixForm wd 8 ++ hid)) => rtag_any hc hm hr (by rw [HBL.out]; omega))
  have HGL := Lib.hid (tagL_len mark (fixForm wd 8 ++ hid))
  have HML := Lib.hid (show ((fixForm wd 8 ++ hid) ++ tagL mark (fixForm wd 8 ++ hid)).length = m by rw [List.length_append, HBL.out, HGL.out, hmm])
  have HTL := Lib.hid (show (tnL code wd hid).length = nt by rw [tnL_len, hnt])
  have HO := Lib.hid (fun W A c (hr : RdB W (.slice A m c) ((fixForm wd 8 ++ hid) ++ tagL mark (fixForm wd 8 ++ hid))) => show Calls Try.prog 16 #[.agg (byts (code ++ mark)).toArray, .slice A m c] W (fun e w' => ∃ A c, e = .returned (.tuple #[nonceV (ofD wd) (ofN wd), .slice A nt c, .int .i64 0]) ∧ SlO W.heap.size w' (.slice A nt c) (tnL code wd hid) ∧ Fr0 W w') by
    have h := open_all (code := code) (mark := mark) hc hm hr
    rw [made_open code mark hw hl] at h
    rw [← HTL.out]
    exact h)
  have HRO := Lib.hid (fun W A c (hr : RdB W (.slice A m c) ((fixForm wd 8 ++ hid) ++ tagL mark (fixForm wd 8 ++ hid))) => show Calls Try.prog 18 #[.agg (byts (code ++ mark)).toArray, .slice A m c] W (fun e w' => ∃ A c, e = .returned (.tuple #[nonceV (ofD wd) (ofN wd), .slice A nt c, .int .i64 0]) ∧ SlO W.heap.size w' (.slice A nt c) (tnL code wd hid) ∧ Fr0 W w') by
    have h := ropen_all (code := code) (mark := mark) hc hm hr
    rw [made_open code mark hw hl] at h
    rw [← HTL.out]
    exact h)
  have HRUN := Lib.hid (fun W => show (Instr.alloc 24 true (.tuple #[])).run Try.prog W = .ok (.pointer (some ⟨W.heap.size, 0, none⟩)) (W.alloc (.cells #[.bool false, .int .u64 0] 24)) by kernel_rfl)
  have HHL := Lib.hid hnt
  have HM9 := Lib.hid (show m ≤ 2000 by omega)
  have HN9 := Lib.hid (show nb ≤ 2000 by omega)
  obtain ⟨TX, hTX⟩ : ∃ t, t = tnL code wd hid := ⟨_, rfl⟩
  rw [← hTX] at HTL HO HRO
  obtain ⟨B, hB⟩ : ∃ t, t = fixForm wd 8 ++ hid := ⟨_, rfl⟩
  have HB := Lib.hid hB
  rw [← hB] at HBL HTG HGL HML HO HRO
  obtain ⟨TG, hTG⟩ : ∃ t, t = tagL mark B := ⟨_, rfl⟩
  rw [← hTG] at HTG HGL HML HO HRO
  obtain ⟨ck, hck⟩ : ∃ c, c = (byts (code ++ mark)).toArray := ⟨_, rfl⟩
  rw [← hck] at BK HCK FX HTG HO HRO ⊢
  obtain ⟨D, hD⟩ : ∃ t, t = ofD wd := ⟨_, rfl⟩
  obtain ⟨N, hN⟩ : ∃ t, t = ofN wd := ⟨_, rfl⟩
  rw [← hD, ← hN] at HO HRO
  unfold nonceV at HO HRO
  obtain ⟨gk, hgk⟩ : ∃ t, t = w.heap.size := ⟨_, rfl⟩
  have HGK := Lib.hid hgk
  clear h1 hck hc hm hnt ht hl hTX hB hTG hD hN hgk hnb hmm
  go_enter Try.func5, Try.ntmps5
  go_upto_region 6 with (first
    | (have _q := F1; at_builtin; have SN : SlO w.heap.size (w1.alloc (.cells #[.int .u8 ((wd : Int) / 72057594037927936), .int .u8 ((wd : Int) / 281474976710656 % 256), .int .u8 ((wd : Int) / 1099511627776 % 256), .int .u8 ((wd : Int) / 4294967296 % 256), .int .u8 ((wd : Int) / 16777216 % 256), .int .u8 ((wd : Int) / 65536 % 256), .int .u8 ((wd : Int) / 256 % 256), .int .u8 ((wd : Int) % 256)] 5)) (.slice (some ⟨w1.heap.size, 0, none⟩) 8 8) (fixForm wd 8) := (by rw [← HFX.out]; exact slo_blk (Blk.new w1 _ 5) (F1.out).size HFL.out (by decide)); refine list_append_sl (base := w.heap.size) (d := fixForm wd 8) (e := hid) rfl _ _ rfl SN rfl (by have := (F1.out).size; rw [World.size_alloc]; omega) (RdB.fr0 HT.out ((F1.out).alloc _)) rfl (by rw [← List.length_append, ← HB.out, HBL.out]; have := HN9.out; omega) ?_; intro A2 c2 w2 hS hF hK; have S2 := Lib.hid (show SlO w.heap.size w2 (.slice A2 nb c2) B from by have h := hS; rw [← HB.out, HBL.out] at h; exact h); have F2 := Lib.hid (SN.thenFr ((F1.out).alloc _) hF); have K2 := Lib.hid (((K1.out).alloc _).fr hF (fun hk => SN.ne ((K1.out).alloc _) (by decide) _ hk rfl)); rw [show (fixForm wd 8).length + hid.length = nb from by rw [← List.length_append, ← HB.out, HBL.out]]; clear hS hF hK SN)
    | (go_at_call 13; refine (KN.out _).mono ?_; rintro e w1 ⟨rfl, hf⟩; have F1 := Lib.hid (Fr0.trans FX.out hf); have K1 := Lib.hid ((BK.out).fr0 hf); clear hf))
  clear F1 K1
  rw [← HGK.out]
  replace S2 := Lib.hid (show SlO gk w2 (.slice A2 nb c2) B by rw [HGK.out]; exact S2.out)
  replace K2 := Lib.hid (show Blk w2 gk ck 34 by rw [HGK.out]; exact K2.out)
  go_cut [8, 9, 10] (fun s8 s9 s10 wx => ∃ g8 A9 c9, s8 = .pointer (some ⟨g8, 0, none⟩) ∧ s9 = .slice A9 nt c9 ∧ s10 = .int .i64 0 ∧ Blk wx g8 #[.bool D, .int .u64 (N : Int)] 24 ∧ SlO w2.heap.size wx (.slice A9 nt c9) TX ∧ Blk wx gk ck 34 ∧ SlO gk wx (.slice A2 nb c2) B ∧ Fr0 w wx)
  case first =>
    have KA := Lib.hid (Blk.drew K2.out)
    have SA := Lib.hid ((S2.out).fr0 ((Fr0.refl w2).drew))
    have FA := Lib.hid (Fr0.drew F2.out)
    have UF := Lib.hid (show w2.heap.size ≤ w2.drew.heap.size from Nat.le_refl _)
    have LA := Lib.hid (show ∀ k, inBlk (.slice A2 nb c2) k → k < w2.heap.size from fun k hk => ((S2.out).lo k hk).2)
    clear S2 K2 F2
    refine wp_region_held_drew (S := (fun W => Blk W gk ck 34)) (by kernel_rfl) KA.out (fun hHeld => ?_)
    generalize w2.drew = wa at *
    have _hI : True := trivial
    clear _hI
    refine takeH (i := 0) rfl (by kernel_rfl) (by kernel_rfl) (by kernel_rfl) (fun _ _ _ h => h) (yields_load_blk rfl 34 _ rfl gk rfl 34 ck (fun W hW => hW) _ Try.underlying34 rfl HCK.out) KA.out ?_
    try simp only [Act.put, List.setIfInBounds_toArray, List.set_cons_zero, List.set_cons_succ]
    have _hI : True := trivial
    clear _hI
    refine takeH (i := 1) rfl (by kernel_rfl) (by kernel_rfl) (by kernel_rfl) (fun _ _ _ h => h) (v := .slice A2 nb c2) (.inl ⟨rfl, fun W hW => (by go_simp; try rfl)⟩) KA.out ?_
    try simp only [Act.put, List.setIfInBounds_toArray, List.set_cons_zero, List.set_cons_succ]
    have _hI : True := trivial
    clear _hI
    refine takeH (i := 2) rfl (by kernel_rfl) (by kernel_rfl) (by kernel_rfl) (fun _ _ _ h => h) (yields_load_blk rfl 34 _ rfl gk rfl 34 ck (fun W hW => hW) _ Try.underlying34 rfl HCK.out) KA.out ?_
    try simp only [Act.put, List.setIfInBounds_toArray, List.set_cons_zero, List.set_cons_succ]
    have _hI : True := trivial
    clear _hI
    refine takeH (i := 3) rfl (by kernel_rfl) (by kernel_rfl) (by kernel_rfl) (fun _ _ _ h => h) (v := .slice A2 nb c2) (.inl ⟨rfl, fun W hW => (by go_simp; try rfl)⟩) KA.out ?_
    try simp only [Act.put, List.setIfInBounds_toArray, List.set_cons_zero, List.set_cons_succ]
    have _hI : True := trivial
    clear _hI
    refine wpAnyH_ready (rs := [4, 11]) (by kernel_rfl) (by simp) (consG rfl rfl (fun K hK => ?_) (consG rfl rfl (fun K hK => ?_) AllReadyH.nil))
    ·
      have _hI : True := trivial
      clear _hI
      go_simp
      refine (HTG.out _ _ _ (SA.out).rd).mono ?_
      rintro e Wn ⟨A4, c4, rfl, hS, hf⟩
      replace KA := Lib.hid ((KA.out).fr0 hf)
      replace SA := Lib.hid ((SA.out).fr0 hf)
      replace FA := Lib.hid (Fr0.trans FA.out hf)
      replace UF := Lib.hid (Nat.le_trans UF.out hf.size)
      have TG4 := Lib.hid hS
      clear hS hf
      refine hK.out _ _ KA.out ?_
      clear hK
      try simp only [Act.put, List.setIfInBounds_toArray, List.set_cons_zero, List.set_cons_succ]
      have _hI : True := trivial
      clear _hI
      refine wpAnyH_ready (rs := [5, 11]) (by kernel_rfl) (by simp) (consG rfl rfl (fun K hK => ?_) (consG rfl rfl (fun K hK => ?_) AllReadyH.nil))
      ·
        have _hI : True := trivial
        clear _hI
        refine wp_append_sl_keep (base := gk) (d := B) (e := TG) _ _ rfl SA.out rfl (Nat.le_trans (by rw [HGK.out]; exact (FA.out).size) (Nat.le_refl _)) (TG4.out).rd rfl (by rw [← List.length_append, HML.out]; have := HM9.out; omega) ?_
        intro A5 c5 Wn hS hF hS2
        have SO := SA.out
        replace KA := Lib.hid ((KA.out).fr hF (fun hk => SO.ne KA.out (by decide) _ hk rfl))
        replace FA := Lib.hid (show Fr0 w Wn from Fr.then FA.out hF (fun i hi hl => absurd (SO.lo i hi).1 (by rw [HGK.out]; omega)))
        replace UF := Lib.hid (Nat.le_trans UF.out hF.size)
        replace SA := Lib.hid hS2
        have BT := Lib.hid (show RdB Wn (.slice A5 m c5) (B ++ TG) from by have h := hS.rd; rw [HML.out] at h; exact h)
        rw [show B.length + TG.length = m from by rw [← List.length_append, HML.out]]
        clear hS hF hS2 SO
        refine hK.out _ _ KA.out ?_
        clear hK
        try simp only [Act.put, List.setIfInBounds_toArray, List.set_cons_zero, List.set_cons_succ]
        have _hI : True := trivial
        clear _hI
        refine wpAnyH_ready (rs := [6, 11]) (by kernel_rfl) (by simp) (consG rfl rfl (fun K hK => ?_) (consG rfl rfl (fun K hK => ?_) AllReadyH.nil))
        ·
          have _hI : True := trivial
          clear _hI
          go_simp
          refine (HO.out _ _ _ BT.out).mono ?_
          rintro e Wn ⟨A6, c6, rfl, hS, hf⟩
          have LB := UF.out
          replace KA := Lib.hid ((KA.out).fr0 hf)
          replace SA := Lib.hid ((SA.out).fr0 hf)
          replace FA := Lib.hid (Fr0.trans FA.out hf)
          replace UF := Lib.hid (Nat.le_trans UF.out hf.size)
          have TX9 := Lib.hid (hS.low LB)
          clear hS hf LB
          refine hK.out _ _ KA.out ?_
          clear hK
          try simp only [Act.put, List.setIfInBounds_toArray, List.set_cons_zero, List.set_cons_succ]
          have _hI : True := trivial
          clear _hI
          refine takeH (i := 7) rfl (by kernel_rfl) (by kernel_rfl) (by kernel_rfl) (fun _ _ _ h => h) (v := .tuple #[.agg #[.bool D, .int .u64 (N : Int)], .slice A6 nt c6, .int .i64 0]) (.inl ⟨rfl, fun W hW => (by go_simp; try rfl)⟩) KA.out ?_
          try simp only [Act.put, List.setIfInBounds_toArray, List.set_cons_zero, List.set_cons_succ]
          have _hI : True := trivial
          clear _hI
          refine takeH (i := 8) rfl (by kernel_rfl) (by kernel_rfl) (by kernel_rfl) (fun _ _ _ h => h) (v := .agg #[.bool D, .int .u64 (N : Int)]) (.inl ⟨rfl, fun W hW => (by go_simp; try rfl)⟩) KA.out ?_
          try simp only [Act.put, List.setIfInBounds_toArray, List.set_cons_zero, List.set_cons_succ]
          have _hI : True := trivial
          clear _hI
          refine takeH (i := 9) rfl (by kernel_rfl) (by kernel_rfl) (by kernel_rfl) (fun _ _ _ h => h) (v := .slice A6 nt c6) (.inl ⟨rfl, fun W hW => (by go_simp; try rfl)⟩) KA.out ?_
          try simp only [Act.put, List.setIfInBounds_toArray, List.set_cons_zero, List.set_cons_succ]
          have _hI : True := trivial
          clear _hI
          refine takeH (i := 10) rfl (by kernel_rfl) (by kernel_rfl) (by kernel_rfl) (fun _ _ _ h => h) (v := .int .i64 0) (.inl ⟨rfl, fun W hW => (by go_simp; try rfl)⟩) KA.out ?_
          try simp only [Act.put, List.setIfInBounds_toArray, List.set_cons_zero, List.set_cons_succ]
          have _hI : True := trivial
          clear _hI
          refine wpAnyH_ready (rs := [11]) (by kernel_rfl) (by simp) (consG rfl rfl (fun K hK => ?_) AllReadyH.nil)
          have _hI : True := trivial
          clear _hI
          have LW := Lib.hid (FA.out).size
          refine wp_alloc_blk 24 rfl #[.bool false, .int .u64 0] HRUN.out ?_
          intro ga Wn hB hf hl
          replace KA := Lib.hid ((KA.out).fr0 hf)
          replace SA := Lib.hid ((SA.out).fr0 hf)
          replace FA := Lib.hid (Fr0.trans FA.out hf)
          replace UF := Lib.hid (Nat.le_trans UF.out hf.size)
          replace TX9 := Lib.hid ((TX9.out).fr0 hf)
          have ZN := Lib.hid hB
          have L8 := Lib.hid (Nat.le_trans LW.out hl)
          clear hB hf hl LW
          refine hK.out _ _ KA.out ?_
          clear hK
          try simp only [Act.put, List.setIfInBounds_toArray, List.set_cons_zero, List.set_cons_succ]
          have _hI : True := trivial
          clear _hI
          refine wpAnyH_ready (rs := [12]) (by kernel_rfl) (by simp) (consG rfl rfl (fun K hK => ?_) AllReadyH.nil)
          have _hI : True := trivial
          clear _hI
          refine wp_store_blk 24 _ _ rfl ga #[.bool D, .int .u64 (N : Int)] rfl rfl 24 #[.bool false, .int .u64 0] ZN.out (by kernel_rfl) rfl (by simp [Value.oneCell']) ?_
          intro Wn hB hF
          have ZO := ZN.out
          have KO := KA.out
          replace KA := Lib.hid ((KA.out).fr1 hF (fun e => absurd (Blk.two_ty (by rw [e] at KO; exact KO) ZO) (by decide)))
          replace SA := Lib.hid ((SA.out).fr1 hF ZO (by decide))
          replace FA := Lib.hid (Fr0.new FA.out hF L8.out)
          replace UF := Lib.hid (Nat.le_trans UF.out hF.size)
          replace TX9 := Lib.hid ((TX9.out).fr1 hF ZO (by decide))
          replace ZN := Lib.hid hB
          clear hB hF ZO KO
          refine hK.out _ _ KA.out ?_
          clear hK
          try simp only [Act.put, List.setIfInBounds_toArray, List.set_cons_zero, List.set_cons_succ]
          have _hI : True := trivial
          clear _hI
          refine takeH (i := 13) rfl (by kernel_rfl) (by kernel_rfl) (by kernel_rfl) (fun _ _ _ h => h) (v := .slice A6 nt c6) (.inl ⟨rfl, fun W hW => (by go_simp; try rfl)⟩) KA.out ?_
          try simp only [Act.put, List.setIfInBounds_toArray, List.set_cons_zero, List.set_cons_succ]
          have _hI : True := trivial
          clear _hI
          refine takeH (i := 14) rfl (by kernel_rfl) (by kernel_rfl) (by kernel_rfl) (fun _ _ _ h => h) (v := .int .i64 0) (.inl ⟨rfl, fun W hW => (by go_simp; try rfl)⟩) KA.out ?_
          try simp only [Act.put, List.setIfInBounds_toArray, List.set_cons_zero, List.set_cons_succ]
          refine wpAnyH_done (by kernel_rfl) ?_ _
          go_wp2_with fail
          go_meet
          exact ⟨ga, A6, c6, rfl, rfl, rfl, ZN.out, TX9.out, KA.out, SA.out, FA.out⟩
        ·
          have _hI : True := trivial
          clear _hI
          have LW := Lib.hid (FA.out).size
          refine wp_alloc_blk 24 rfl #[.bool false, .int .u64 0] HRUN.out ?_
          intro ga Wn hB hf hl
          replace KA := Lib.hid ((KA.out).fr0 hf)
          replace SA := Lib.hid ((SA.out).fr0 hf)
          replace FA := Lib.hid (Fr0.trans FA.out hf)
          replace UF := Lib.hid (Nat.le_trans UF.out hf.size)
          replace BT := Lib.hid (RdB.fr0 BT.out hf)
          have ZN := Lib.hid hB
          have L8 := Lib.hid (Nat.le_trans LW.out hl)
          clear hB hf hl LW
          refine hK.out _ _ KA.out ?_
          clear hK
          try simp only [Act.put, List.setIfInBounds_toArray, List.set_cons_zero, List.set_cons_succ]
          have _hI : True := trivial
          clear _hI
          refine wpAnyH_ready (rs := [6]) (by kernel_rfl) (by simp) (consG rfl rfl (fun K hK => ?_) AllReadyH.nil)
          have _hI : True := trivial
          clear _hI
          go_simp
          refine (HO.out _ _ _ BT.out).mono ?_
          rintro e Wn ⟨A6, c6, rfl, hS, hf⟩
          have LB := UF.out
          replace KA := Lib.hid ((KA.out).fr0 hf)
          replace SA := Lib.hid ((SA.out).fr0 hf)
          replace FA := Lib.hid (Fr0.trans FA.out hf)
          replace UF := Lib.hid (Nat.le_trans UF.out hf.size)
          replace ZN := Lib.hid ((ZN.out).fr0 hf)
          have TX9 := Lib.hid (hS.low LB)
          clear hS hf LB
          refine hK.out _ _ KA.out ?_
          clear hK
          try simp only [Act.put, List.setIfInBounds_toArray, List.set_cons_zero, List.set_cons_succ]
          have _hI : True := trivial
          clear _hI
          refine takeH (i := 7) rfl (by kernel_rfl) (by kernel_rfl) (by kernel_rfl) (fun _ _ _ h => h) (v := .tuple #[.agg #[.bool D, .int .u64 (N : Int)], .slice A6 nt c6, .int .i64 0]) (.inl ⟨rfl, fun W hW => (by go_simp; try rfl)⟩) KA.out ?_
          try simp only [Act.put, List.setIfInBounds_toArray, List.set_cons_zero, List.set_cons_succ]
          have _hI : True := trivial
          clear _hI
          refine takeH (i := 8) rfl (by kernel_rfl) (by kernel_rfl) (by kernel_rfl) (fun _ _ _ h => h) (v := .agg #[.bool D, .int .u64 (N : Int)]) (.inl ⟨rfl, fun W hW => (by go_simp; try rfl)⟩) KA.out ?_
          try simp only [Act.put, List.setIfInBounds_toArray, List.set_cons_zero, List.set_cons_succ]
          have _hI : True := trivial
          clear _hI
          refine takeH (i := 9) rfl (by kernel_rfl) (by kernel_rfl) (by kernel_rfl) (fun _ _ _ h => h) (v := .slice A6 nt c6) (.inl ⟨rfl, fun W hW => (by go_simp; try rfl)⟩) KA.out ?_
          try simp only [Act.put, List.setIfInBounds_toArray, List.set_cons_zero, List.set_cons_succ]
          have _hI : True := trivial
          clear _hI
          refine takeH (i := 10) rfl (by kernel_rfl) (by kernel_rfl) (by kernel_rfl) (fun _ _ _ h => h) (v := .int .i64 0) (.inl ⟨rfl, fun W hW => (by go_simp; try rfl)⟩) KA.out ?_
          try simp only [Act.put, List.setIfInBounds_toArray, List.set_cons_zero, List.set_cons_succ]
          have _hI : True := trivial
          clear _hI
          refine wpAnyH_ready (rs := [12]) (by kernel_rfl) (by simp) (consG rfl rfl (fun K hK => ?_) AllReadyH.nil)
          have _hI : True := trivial
          clear _hI
          refine wp_store_blk 24 _ _ rfl ga #[.bool D, .int .u64 (N : Int)] rfl rfl 24 #[.bool false, .int .u64 0] ZN.out (by kernel_rfl) rfl (by simp [Value.oneCell']) ?_
          intro Wn hB hF
          have ZO := ZN.out
          have KO := KA.out
          replace KA := Lib.hid ((KA.out).fr1 hF (fun e => absurd (Blk.two_ty (by rw [e] at KO; exact KO) ZO) (by decide)))
          replace SA := Lib.hid ((SA.out).fr1 hF ZO (by decide))
          replace FA := Lib.hid (Fr0.new FA.out hF L8.out)
          replace UF := Lib.hid (Nat.le_trans UF.out hF.size)
          replace TX9 := Lib.hid ((TX9.out).fr1 hF ZO (by decide))
          replace ZN := Lib.hid hB
          clear hB hF ZO KO
          refine hK.out _ _ KA.out ?_
          clear hK
          try simp only [Act.put, List.setIfInBounds_toArray, List.set_cons_zero, List.set_cons_succ]
          have _hI : True := trivial
          clear _hI
          refine takeH (i := 13) rfl (by kernel_rfl) (by kernel_rfl) (by kernel_rfl) (fun _ _ _ h => h) (v := .slice A6 nt c6) (.inl ⟨rfl, fun W hW => (by go_simp; try rfl)⟩) KA.out ?_
          try simp only [Act.put, List.setIfInBounds_toArray, List.set_cons_zero, List.set_cons_succ]
          have _hI : True := trivial
          clear _hI
          refine takeH (i := 14) rfl (by kernel_rfl) (by kernel_rfl) (by kernel_rfl) (fun _ _ _ h => h) (v := .int .i64 0) (.inl ⟨rfl, fun W hW => (by go_simp; try rfl)⟩) KA.out ?_
          try simp only [Act.put, List.setIfInBounds_toArray, List.set_cons_zero, List.set_cons_succ]
          refine wpAnyH_done (by kernel_rfl) ?_ _
          go_wp2_with fail
          go_meet
          exact ⟨ga, A6, c6, rfl, rfl, rfl, ZN.out, TX9.out, KA.out, SA.out, FA.out⟩
      ·
        have _hI : True := trivial
        clear _hI
        have LW := Lib.hid (FA.out).size
        refine wp_alloc_blk 24 rfl #[.bool false, .int .u64 0] HRUN.out ?_
        intro ga Wn hB hf hl
        replace KA := Lib.hid ((KA.out).fr0 hf)
        replace SA := Lib.hid ((SA.out).fr0 hf)
        replace FA := Lib.hid (Fr0.trans FA.out hf)
        replace UF := Lib.hid (Nat.le_trans UF.out hf.size)
        replace TG4 := Lib.hid ((TG4.out).fr0 hf)
        have ZN := Lib.hid hB
        have L8 := Lib.hid (Nat.le_trans LW.out hl)
        clear hB hf hl LW
        refine hK.out _ _ KA.out ?_
        clear hK
        try simp only [Act.put, List.setIfInBounds_toArray, List.set_cons_zero, List.set_cons_succ]
        have _hI : True := trivial
        clear _hI
        refine wpAnyH_ready (rs := [5]) (by kernel_rfl) (by simp) (consG rfl rfl (fun K hK => ?_) AllReadyH.nil)
        have _hI : True := trivial
        clear _hI
        refine wp_append_sl_keep (base := gk) (d := B) (e := TG) _ _ rfl SA.out rfl (Nat.le_trans (by rw [HGK.out]; exact (FA.out).size) (Nat.le_refl _)) (TG4.out).rd rfl (by rw [← List.length_append, HML.out]; have := HM9.out; omega) ?_
        intro A5 c5 Wn hS hF hS2
        have SO := SA.out
        replace KA := Lib.hid ((KA.out).fr hF (fun hk => SO.ne KA.out (by decide) _ hk rfl))
        replace FA := Lib.hid (show Fr0 w Wn from Fr.then FA.out hF (fun i hi hl => absurd (SO.lo i hi).1 (by rw [HGK.out]; omega)))
        replace UF := Lib.hid (Nat.le_trans UF.out hF.size)
        replace ZN := Lib.hid ((ZN.out).fr hF (fun hk => SO.ne ZN.out (by decide) _ hk rfl))
        replace SA := Lib.hid hS2
        have BT := Lib.hid (show RdB Wn (.slice A5 m c5) (B ++ TG) from by have h := hS.rd; rw [HML.out] at h; exact h)
        rw [show B.length + TG.length = m from by rw [← List.length_append, HML.out]]
        clear hS hF hS2 SO
        refine hK.out _ _ KA.out ?_
        clear hK
        try simp only [Act.put, List.setIfInBounds_toArray, List.set_cons_zero, List.set_cons_succ]
        have _hI : True := trivial
        clear _hI
        refine wpAnyH_ready (rs := [6]) (by kernel_rfl) (by simp) (consG rfl rfl (fun K hK => ?_) AllReadyH.nil)
        have _hI : True := trivial
        clear _hI
        go_simp
        refine (HO.out _ _ _ BT.out).mono ?_
        rintro e Wn ⟨A6, c6, rfl, hS, hf⟩
        have LB := UF.out
        replace KA := Lib.hid ((KA.out).fr0 hf)
        replace SA := Lib.hid ((SA.out).fr0 hf)
        replace FA := Lib.hid (Fr0.trans FA.out hf)
        replace UF := Lib.hid (Nat.le_trans UF.out hf.size)
        replace ZN := Lib.hid ((ZN.out).fr0 hf)
        have TX9 := Lib.hid (hS.low LB)
        clear hS hf LB
        refine hK.out _ _ KA.out ?_
        clear hK
        try simp only [Act.put, List.setIfInBounds_toArray, List.set_cons_zero, List.set_cons_succ]
        have _hI : True := trivial
        clear _hI
        refine takeH (i := 7) rfl (by kernel_rfl) (by kernel_rfl) (by kernel_rfl) (fun _ _ _ h => h) (v := .tuple #[.agg #[.bool D, .int .u64 (N : Int)], .slice A6 nt c6, .int .i64 0]) (.inl ⟨rfl, fun W hW => (by go_simp; try rfl)⟩) KA.out ?_
        try simp only [Act.put, List.setIfInBounds_toArray, List.set_cons_zero, List.set_cons_succ]
        have _hI : True := trivial
        clear _hI
        refine takeH (i := 8) rfl (by kernel_rfl) (by kernel_rfl) (by kernel_rfl) (fun _ _ _ h => h) (v := .agg #[.bool D, .int .u64 (N : Int)]) (.inl ⟨rfl, fun W hW => (by go_simp; try rfl)⟩) KA.out ?_
        try simp only [Act.put, List.setIfInBounds_toArray, List.set_cons_zero, List.set_cons_succ]
        have _hI : True := trivial
        clear _hI
        refine takeH (i := 9) rfl (by kernel_rfl) (by kernel_rfl) (by kernel_rfl) (fun _ _ _ h => h) (v := .slice A6 nt c6) (.inl ⟨rfl, fun W hW => (by go_simp; try rfl)⟩) KA.out ?_
        try simp only [Act.put, List.setIfInBounds_toArray, List.set_cons_zero, List.set_cons_succ]
        have _hI : True := trivial
        clear _hI
        refine takeH (i := 10) rfl (by kernel_rfl) (by kernel_rfl) (by kernel_rfl) (fun _ _ _ h => h) (v := .int .i64 0) (.inl ⟨rfl, fun W hW => (by go_simp; try rfl)⟩) KA.out ?_
        try simp only [Act.put, List.setIfInBounds_toArray, List.set_cons_zero, List.set_cons_succ]
        have _hI : True := trivial
        clear _hI
        refine wpAnyH_ready (rs := [12]) (by kernel_rfl) (by simp) (consG rfl rfl (fun K hK => ?_) AllReadyH.nil)
        have _hI : True := trivial
        clear _hI
        refine wp_store_blk 24 _ _ rfl ga #[.bool D, .int .u64 (N : Int)] rfl rfl 24 #[.bool false, .int .u64 0] ZN.out (by kernel_rfl) rfl (by simp [Value.oneCell']) ?_
        intro Wn hB hF
        have ZO := ZN.out
        have KO := KA.out
        replace KA := Lib.hid ((KA.out).fr1 hF (fun e => absurd (Blk.two_ty (by rw [e] at KO; exact KO) ZO) (by decide)))
        replace SA := Lib.hid ((SA.out).fr1 hF ZO (by decide))
        replace FA := Lib.hid (Fr0.new FA.out hF L8.out)
        replace UF := Lib.hid (Nat.le_trans UF.out hF.size)
        replace TX9 := Lib.hid ((TX9.out).fr1 hF ZO (by decide))
        replace ZN := Lib.hid hB
        clear hB hF ZO KO
        refine hK.out _ _ KA.out ?_
        clear hK
        try simp only [Act.put, List.setIfInBounds_toArray, List.set_cons_zero, List.set_cons_succ]
        have _hI : True := trivial
        clear _hI
        refine takeH (i := 13) rfl (by kernel_rfl) (by kernel_rfl) (by kernel_rfl) (fun _ _ _ h => h) (v := .slice A6 nt c6) (.inl ⟨rfl, fun W hW => (by go_simp; try rfl)⟩) KA.out ?_
        try simp only [Act.put, List.setIfInBounds_toArray, List.set_cons_zero, List.set_cons_succ]
        have _hI : True := trivial
        clear _hI
        refine takeH (i := 14) rfl (by kernel_rfl) (by kernel_rfl) (by kernel_rfl) (fun _ _ _ h => h) (v := .int .i64 0) (.inl ⟨rfl, fun W hW => (by go_simp; try rfl)⟩) KA.out ?_
        try simp only [Act.put, List.setIfInBounds_toArray, List.set_cons_zero, List.set_cons_succ]
        refine wpAnyH_done (by kernel_rfl) ?_ _
        go_wp2_with fail
        go_meet
        exact ⟨ga, A6, c6, rfl, rfl, rfl, ZN.out, TX9.out, KA.out, SA.out, FA.out⟩
    ·
      have _hI : True := trivial
      clear _hI
      have LW := Lib.hid (FA.out).size
      refine wp_alloc_blk 24 rfl #[.bool false, .int .u64 0] HRUN.out ?_
      intro ga Wn hB hf hl
      replace KA := Lib.hid ((KA.out).fr0 hf)
      replace SA := Lib.hid ((SA.out).fr0 hf)
      replace FA := Lib.hid (Fr0.trans FA.out hf)
      replace UF := Lib.hid (Nat.le_trans UF.out hf.size)
      have ZN := Lib.hid hB
      have L8 := Lib.hid (Nat.le_trans LW.out hl)
      clear hB hf hl LW
      refine hK.out _ _ KA.out ?_
      clear hK
      try simp only [Act.put, List.setIfInBounds_toArray, List.set_cons_zero, List.set_cons_succ]
      have _hI : True := trivial
      clear _hI
      refine wpAnyH_ready (rs := [4]) (by kernel_rfl) (by simp) (consG rfl rfl (fun K hK => ?_) AllReadyH.nil)
      have _hI : True := trivial
      clear _hI
      go_simp
      refine (HTG.out _ _ _ (SA.out).rd).mono ?_
      rintro e Wn ⟨A4, c4, rfl, hS, hf⟩
      replace KA := Lib.hid ((KA.out).fr0 hf)
      replace SA := Lib.hid ((SA.out).fr0 hf)
      replace FA := Lib.hid (Fr0.trans FA.out hf)
      replace UF := Lib.hid (Nat.le_trans UF.out hf.size)
      replace ZN := Lib.hid ((ZN.out).fr0 hf)
      have TG4 := Lib.hid hS
      clear hS hf
      refine hK.out _ _ KA.out ?_
      clear hK
      try simp only [Act.put, List.setIfInBounds_toArray, List.set_cons_zero, List.set_cons_succ]
      have _hI : True := trivial
      clear _hI
      refine wpAnyH_ready (rs := [5]) (by kernel_rfl) (by simp) (consG rfl rfl (fun K hK => ?_) AllReadyH.nil)
      have _hI : True := trivial
      clear _hI
      refine wp_append_sl_keep (base := gk) (d := B) (e := TG) _ _ rfl SA.out rfl (Nat.le_trans (by rw [HGK.out]; exact (FA.out).size) (Nat.le_refl _)) (TG4.out).rd rfl (by rw [← List.length_append, HML.out]; have := HM9.out; omega) ?_
      intro A5 c5 Wn hS hF hS2
      have SO := SA.out
      replace KA := Lib.hid ((KA.out).fr hF (fun hk => SO.ne KA.out (by decide) _ hk rfl))
      replace FA := Lib.hid (show Fr0 w Wn from Fr.then FA.out hF (fun i hi hl => absurd (SO.lo i hi).1 (by rw [HGK.out]; omega)))
      replace UF := Lib.hid (Nat.le_trans UF.out hF.size)
      replace ZN := Lib.hid ((ZN.out).fr hF (fun hk => SO.ne ZN.out (by decide) _ hk rfl))
      replace SA := Lib.hid hS2
      have BT := Lib.hid (show RdB Wn (.slice A5 m c5) (B ++ TG) from by have h := hS.rd; rw [HML.out] at h; exact h)
      rw [show B.length + TG.length = m from by rw [← List.length_append, HML.out]]
      clear hS hF hS2 SO
      refine hK.out _ _ KA.out ?_
      clear hK
      try simp only [Act.put, List.setIfInBounds_toArray, List.set_cons_zero, List.set_cons_succ]
      have _hI : True := trivial
      clear _hI
      refine wpAnyH_ready (rs := [6]) (by kernel_rfl) (by simp) (consG rfl rfl (fun K hK => ?_) AllReadyH.nil)
      have _hI : True := trivial
      clear _hI
      go_simp
      refine (HO.out _ _ _ BT.out).mono ?_
      rintro e Wn ⟨A6, c6, rfl, hS, hf⟩
      have LB := UF.out
      replace KA := Lib.hid ((KA.out).fr0 hf)
      replace SA := Lib.hid ((SA.out).fr0 hf)
      replace FA := Lib.hid (Fr0.trans FA.out hf)
      replace UF := Lib.hid (Nat.le_trans UF.out hf.size)
      replace ZN := Lib.hid ((ZN.out).fr0 hf)
      have TX9 := Lib.hid (hS.low LB)
      clear hS hf LB
      refine hK.out _ _ KA.out ?_
      clear hK
      try simp only [Act.put, List.setIfInBounds_toArray, List.set_cons_zero, List.set_cons_succ]
      have _hI : True := trivial
      clear _hI
      refine takeH (i := 7) rfl (by kernel_rfl) (by kernel_rfl) (by kernel_rfl) (fun _ _ _ h => h) (v := .tuple #[.agg #[.bool D, .int .u64 (N : Int)], .slice A6 nt c6, .int .i64 0]) (.inl ⟨rfl, fun W hW => (by go_simp; try rfl)⟩) KA.out ?_
      try simp only [Act.put, List.setIfInBounds_toArray, List.set_cons_zero, List.set_cons_succ]
      have _hI : True := trivial
      clear _hI
      refine takeH (i := 8) rfl (by kernel_rfl) (by kernel_rfl) (by kernel_rfl) (fun _ _ _ h => h) (v := .agg #[.bool D, .int .u64 (N : Int)]) (.inl ⟨rfl, fun W hW => (by go_simp; try rfl)⟩) KA.out ?_
      try simp only [Act.put, List.setIfInBounds_toArray, List.set_cons_zero, List.set_cons_succ]
      have _hI : True := trivial
      clear _hI
      refine takeH (i := 9) rfl (by kernel_rfl) (by kernel_rfl) (by kernel_rfl) (fun _ _ _ h => h) (v := .slice A6 nt c6) (.inl ⟨rfl, fun W hW => (by go_simp; try rfl)⟩) KA.out ?_
      try simp only [Act.put, List.setIfInBounds_toArray, List.set_cons_zero, List.set_cons_succ]
      have _hI : True := trivial
      clear _hI
      refine takeH (i := 10) rfl (by kernel_rfl) (by kernel_rfl) (by kernel_rfl) (fun _ _ _ h => h) (v := .int .i64 0) (.inl ⟨rfl, fun W hW => (by go_simp; try rfl)⟩) KA.out ?_
      try simp only [Act.put, List.setIfInBounds_toArray, List.set_cons_zero, List.set_cons_succ]
      have _hI : True := trivial
      clear _hI
      refine wpAnyH_ready (rs := [12]) (by kernel_rfl) (by simp) (consG rfl rfl (fun K hK => ?_) AllReadyH.nil)
      have _hI : True := trivial
      clear _hI
      refine wp_store_blk 24 _ _ rfl ga #[.bool D, .int .u64 (N : Int)] rfl rfl 24 #[.bool false, .int .u64 0] ZN.out (by kernel_rfl) rfl (by simp [Value.oneCell']) ?_
      intro Wn hB hF
      have ZO := ZN.out
      have KO := KA.out
      replace KA := Lib.hid ((KA.out).fr1 hF (fun e => absurd (Blk.two_ty (by rw [e] at KO; exact KO) ZO) (by decide)))
      replace SA := Lib.hid ((SA.out).fr1 hF ZO (by decide))
      replace FA := Lib.hid (Fr0.new FA.out hF L8.out)
      replace UF := Lib.hid (Nat.le_trans UF.out hF.size)
      replace TX9 := Lib.hid ((TX9.out).fr1 hF ZO (by decide))
      replace ZN := Lib.hid hB
      clear hB hF ZO KO
      refine hK.out _ _ KA.out ?_
      clear hK
      try simp only [Act.put, List.setIfInBounds_toArray, List.set_cons_zero, List.set_cons_succ]
      have _hI : True := trivial
      clear _hI
      refine takeH (i := 13) rfl (by kernel_rfl) (by kernel_rfl) (by kernel_rfl) (fun _ _ _ h => h) (v := .slice A6 nt c6) (.inl ⟨rfl, fun W hW => (by go_simp; try rfl)⟩) KA.out ?_
      try simp only [Act.put, List.setIfInBounds_toArray, List.set_cons_zero, List.set_cons_succ]
      have _hI : True := trivial
      clear _hI
      refine takeH (i := 14) rfl (by kernel_rfl) (by kernel_rfl) (by kernel_rfl) (fun _ _ _ h => h) (v := .int .i64 0) (.inl ⟨rfl, fun W hW => (by go_simp; try rfl)⟩) KA.out ?_
      try simp only [Act.put, List.setIfInBounds_toArray, List.set_cons_zero, List.set_cons_succ]
      refine wpAnyH_done (by kernel_rfl) ?_ _
      go_wp2_with fail
      go_meet
      exact ⟨ga, A6, c6, rfl, rfl, rfl, ZN.out, TX9.out, KA.out, SA.out, FA.out⟩
  case rest =>
    obtain ⟨g8, A9, c9, rfl, rfl, rfl, hZ, hT, hK, hS, hF⟩ := hcut
    have ZP := Lib.hid hZ
    have TP := Lib.hid hT
    have TL9 := Lib.hid (show ∀ k, inBlk (.slice A2 nb c2) k → ¬ inBlk (.slice A9 nt c9) k from fun k hk hk2 => by have := (S2.out).lo k hk; have := hT.lo k hk2; omega)
    have K := Lib.hid hK
    have S := Lib.hid hS
    have F := Lib.hid hF
    clear hZ hT hK hS hF S2 K2 F2
    go_upto_region 7 with (fail)
    go_cut [11, 12, 13] (fun s11 s12 s13 wx => ∃ g11 A12 c12, s11 = .pointer (some ⟨g11, 0, none⟩) ∧ s12 = .slice A12 nt c12 ∧ s13 = .int .i64 0 ∧ Blk wx g11 #[.bool D, .int .u64 (N : Int)] 24 ∧ RdB wx (.slice A12 nt c12) TX ∧ Blk wx g8 #[.bool D, .int .u64 (N : Int)] 24 ∧ RdB wx (.slice A9 nt c9) TX ∧ Fr0 w wx)
    case first =>
      have KA := Lib.hid (Blk.drew K.out)
      have SA := Lib.hid ((S.out).fr0 ((Fr0.refl wc).drew))
      have FA := Lib.hid (Fr0.drew F.out)
      have PZ := Lib.hid (Blk.drew ZP.out)
      have PT := Lib.hid ((TP.out).fr0 ((Fr0.refl wc).drew))
      have UF := Lib.hid (show wc.heap.size ≤ wc.drew.heap.size from Nat.le_refl _)
      have LA := Lib.hid (show ∀ k, inBlk (.slice A2 nb c2) k → k < wc.heap.size from fun k hk => ((S.out).lo k hk).2)
      have LP := Lib.hid (ZP.out).lt
      clear S K F ZP TP
      refine wp_region_held_drew (S := (fun W => Blk W gk ck 34)) (by kernel_rfl) KA.out (fun hHeld => ?_)
      generalize wc.drew = wa at *
      have _hI : True := trivial
      clear _hI
      refine takeH (i := 0) rfl (by kernel_rfl) (by kernel_rfl) (by kernel_rfl) (fun _ _ _ h => h) (yields_load_blk rfl 34 _ rfl gk rfl 34 ck (fun W hW => hW) _ Try.underlying34 rfl HCK.out) KA.out ?_
      try simp only [Act.put, List.setIfInBounds_toArray, List.set_cons_zero, List.set_cons_succ]
      have _hI : True := trivial
      clear _hI
      refine takeH (i := 1) rfl (by kernel_rfl) (by kernel_rfl) (by kernel_rfl) (fun _ _ _ h => h) (v := .slice A2 nb c2) (.inl ⟨rfl, fun W hW => (by go_simp; try rfl)⟩) KA.out ?_
      try simp only [Act.put, List.setIfInBounds_toArray, List.set_cons_zero, List.set_cons_succ]
      have _hI : True := trivial
      clear _hI
      refine takeH (i := 2) rfl (by kernel_rfl) (by kernel_rfl) (by kernel_rfl) (fun _ _ _ h => h) (yields_load_blk rfl 34 _ rfl gk rfl 34 ck (fun W hW => hW) _ Try.underlying34 rfl HCK.out) KA.out ?_
      try simp only [Act.put, List.setIfInBounds_toArray, List.set_cons_zero, List.set_cons_succ]
      have _hI : True := trivial
      clear _hI
      refine takeH (i := 3) rfl (by kernel_rfl) (by kernel_rfl) (by kernel_rfl) (fun _ _ _ h => h) (v := .slice A2 nb c2) (.inl ⟨rfl, fun W hW => (by go_simp; try rfl)⟩) KA.out ?_
      try simp only [Act.put, List.setIfInBounds_toArray, List.set_cons_zero, List.set_cons_succ]
      have _hI : True := trivial
      clear _hI
      refine wpAnyH_ready (rs := [4, 11]) (by kernel_rfl) (by simp) (consG rfl rfl (fun K hK => ?_) (consG rfl rfl (fun K hK => ?_) AllReadyH.nil))
      ·
        have _hI : True := trivial
        clear _hI
        go_simp
        refine (HTG.out _ _ _ (SA.out).rd).mono ?_
        rintro e Wn ⟨A4, c4, rfl, hS, hf⟩
        replace KA := Lib.hid ((KA.out).fr0 hf)
        replace SA := Lib.hid ((SA.out).fr0 hf)
        replace FA := Lib.hid (Fr0.trans FA.out hf)
        replace UF := Lib.hid (Nat.le_trans UF.out hf.size)
        replace PZ := Lib.hid ((PZ.out).fr0 hf)
        replace PT := Lib.hid ((PT.out).fr0 hf)
        have TG4 := Lib.hid hS
        clear hS hf
        refine hK.out _ _ KA.out ?_
        clear hK
        try simp only [Act.put, List.setIfInBounds_toArray, List.set_cons_zero, List.set_cons_succ]
        have _hI : True := trivial
        clear _hI
        refine wpAnyH_ready (rs := [5, 11]) (by kernel_rfl) (by simp) (consG rfl rfl (fun K hK => ?_) (consG rfl rfl (fun K hK => ?_) AllReadyH.nil))
        ·
          have _hI : True := trivial
          clear _hI
          refine wp_append_sl_keep (base := gk) (d := B) (e := TG) _ _ rfl SA.out rfl (Nat.le_trans (by rw [HGK.out]; exact (FA.out).size) (Nat.le_refl _)) (TG4.out).rd rfl (by rw [← List.length_append, HML.out]; have := HM9.out; omega) ?_
          intro A5 c5 Wn hS hF hS2
          have SO := SA.out
          replace KA := Lib.hid ((KA.out).fr hF (fun hk => SO.ne KA.out (by decide) _ hk rfl))
          replace FA := Lib.hid (show Fr0 w Wn from Fr.then FA.out hF (fun i hi hl => absurd (SO.lo i hi).1 (by rw [HGK.out]; omega)))
          replace UF := Lib.hid (Nat.le_trans UF.out hF.size)
          replace PZ := Lib.hid ((PZ.out).fr hF (fun hk => SO.ne PZ.out (by decide) _ hk rfl))
          replace PT := Lib.hid ((PT.out).fr hF (fun k hk hk2 => TL9.out k hk2 hk))
          replace SA := Lib.hid hS2
          have BT := Lib.hid (show RdB Wn (.slice A5 m c5) (B ++ TG) from by have h := hS.rd; rw [HML.out] at h; exact h)
          rw [show B.length + TG.length = m from by rw [← List.length_append, HML.out]]
          clear hS hF hS2 SO
          refine hK.out _ _ KA.out ?_
          clear hK
          try simp only [Act.put, List.setIfInBounds_toArray, List.set_cons_zero, List.set_cons_succ]
          have _hI : True := trivial
          clear _hI
          refine wpAnyH_ready (rs := [6, 11]) (by kernel_rfl) (by simp) (consG rfl rfl (fun K hK => ?_) (consG rfl rfl (fun K hK => ?_) AllReadyH.nil))
          ·
            have _hI : True := trivial
            clear _hI
            go_simp
            refine (HRO.out _ _ _ BT.out).mono ?_
            rintro e Wn ⟨A6, c6, rfl, hS, hf⟩
            have LB := UF.out
            replace KA := Lib.hid ((KA.out).fr0 hf)
            replace SA := Lib.hid ((SA.out).fr0 hf)
            replace FA := Lib.hid (Fr0.trans FA.out hf)
            replace UF := Lib.hid (Nat.le_trans UF.out hf.size)
            replace PZ := Lib.hid ((PZ.out).fr0 hf)
            replace PT := Lib.hid ((PT.out).fr0 hf)
            have TX9 := Lib.hid (hS.low LB)
            clear hS hf LB
            refine hK.out _ _ KA.out ?_
            clear hK
            try simp only [Act.put, List.setIfInBounds_toArray, List.set_cons_zero, List.set_cons_succ]
            have _hI : True := trivial
            clear _hI
            refine takeH (i := 7) rfl (by kernel_rfl) (by kernel_rfl) (by kernel_rfl) (fun _ _ _ h => h) (v := .tuple #[.agg #[.bool D, .int .u64 (N : Int)], .slice A6 nt c6, .int .i64 0]) (.inl ⟨rfl, fun W hW => (by go_simp; try rfl)⟩) KA.out ?_
            try simp only [Act.put, List.setIfInBounds_toArray, List.set_cons_zero, List.set_cons_succ]
            have _hI : True := trivial
            clear _hI
            refine takeH (i := 8) rfl (by kernel_rfl) (by kernel_rfl) (by kernel_rfl) (fun _ _ _ h => h) (v := .agg #[.bool D, .int .u64 (N : Int)]) (.inl ⟨rfl, fun W hW => (by go_simp; try rfl)⟩) KA.out ?_
            try simp only [Act.put, List.setIfInBounds_toArray, List.set_cons_zero, List.set_cons_succ]
            have _hI : True := trivial
            clear _hI
            refine takeH (i := 9) rfl (by kernel_rfl) (by kernel_rfl) (by kernel_rfl) (fun _ _ _ h => h) (v := .slice A6 nt c6) (.inl ⟨rfl, fun W hW => (by go_simp; try rfl)⟩) KA.out ?_
            try simp only [Act.put, List.setIfInBounds_toArray, List.set_cons_zero, List.set_cons_succ]
            have _hI : True := trivial
            clear _hI
            refine takeH (i := 10) rfl (by kernel_rfl) (by kernel_rfl) (by kernel_rfl) (fun _ _ _ h => h) (v := .int .i64 0) (.inl ⟨rfl, fun W hW => (by go_simp; try rfl)⟩) KA.out ?_
            try simp only [Act.put, List.setIfInBounds_toArray, List.set_cons_zero, List.set_cons_succ]
            have _hI : True := trivial
            clear _hI
            refine wpAnyH_ready (rs := [11]) (by kernel_rfl) (by simp) (consG rfl rfl (fun K hK => ?_) AllReadyH.nil)
            have _hI : True := trivial
            clear _hI
            have LW := Lib.hid (FA.out).size
            have LPW := Lib.hid (PZ.out).lt
            refine wp_alloc_blk 24 rfl #[.bool false, .int .u64 0] HRUN.out ?_
            intro ga Wn hB hf hl
            replace KA := Lib.hid ((KA.out).fr0 hf)
            replace SA := Lib.hid ((SA.out).fr0 hf)
            replace FA := Lib.hid (Fr0.trans FA.out hf)
            replace UF := Lib.hid (Nat.le_trans UF.out hf.size)
            replace PZ := Lib.hid ((PZ.out).fr0 hf)
            replace PT := Lib.hid ((PT.out).fr0 hf)
            replace TX9 := Lib.hid ((TX9.out).fr0 hf)
            have ZN := Lib.hid hB
            have L8 := Lib.hid (Nat.le_trans LW.out hl)
            have L9 := Lib.hid (Nat.lt_of_lt_of_le LPW.out hl)
            clear hB hf hl LW LPW
            refine hK.out _ _ KA.out ?_
            clear hK
            try simp only [Act.put, List.setIfInBounds_toArray, List.set_cons_zero, List.set_cons_succ]
            have _hI : True := trivial
            clear _hI
            refine wpAnyH_ready (rs := [12]) (by kernel_rfl) (by simp) (consG rfl rfl (fun K hK => ?_) AllReadyH.nil)
            have _hI : True := trivial
            clear _hI
            refine wp_store_blk 24 _ _ rfl ga #[.bool D, .int .u64 (N : Int)] rfl rfl 24 #[.bool false, .int .u64 0] ZN.out (by kernel_rfl) rfl (by simp [Value.oneCell']) ?_
            intro Wn hB hF
            have ZO := ZN.out
            have KO := KA.out
            replace KA := Lib.hid ((KA.out).fr1 hF (fun e => absurd (Blk.two_ty (by rw [e] at KO; exact KO) ZO) (by decide)))
            replace SA := Lib.hid ((SA.out).fr1 hF ZO (by decide))
            replace FA := Lib.hid (Fr0.new FA.out hF L8.out)
            replace UF := Lib.hid (Nat.le_trans UF.out hF.size)
            replace PZ := Lib.hid ((PZ.out).fr1 hF (Nat.ne_of_lt L9.out))
            replace PT := Lib.hid ((PT.out).fr1 hF ZO (by decide))
            replace TX9 := Lib.hid ((TX9.out).fr1 hF ZO (by decide))
            replace ZN := Lib.hid hB
            clear hB hF ZO KO
            refine hK.out _ _ KA.out ?_
            clear hK
            try simp only [Act.put, List.setIfInBounds_toArray, List.set_cons_zero, List.set_cons_succ]
            have _hI : True := trivial
            clear _hI
            refine takeH (i := 13) rfl (by kernel_rfl) (by kernel_rfl) (by kernel_rfl) (fun _ _ _ h => h) (v := .slice A6 nt c6) (.inl ⟨rfl, fun W hW => (by go_simp; try rfl)⟩) KA.out ?_
            try simp only [Act.put, List.setIfInBounds_toArray, List.set_cons_zero, List.set_cons_succ]
            have _hI : True := trivial
            clear _hI
            refine takeH (i := 14) rfl (by kernel_rfl) (by kernel_rfl) (by kernel_rfl) (fun _ _ _ h => h) (v := .int .i64 0) (.inl ⟨rfl, fun W hW => (by go_simp; try rfl)⟩) KA.out ?_
            try simp only [Act.put, List.setIfInBounds_toArray, List.set_cons_zero, List.set_cons_succ]
            refine wpAnyH_done (by kernel_rfl) ?_ _
            go_wp2_with fail
            go_meet
            exact ⟨ga, A6, c6, rfl, rfl, rfl, ZN.out, (TX9.out).rd, PZ.out, (PT.out).rd, FA.out⟩
          ·
            have _hI : True := trivial
            clear _hI
            have LW := Lib.hid (FA.out).size
            have LPW := Lib.hid (PZ.out).lt
            refine wp_alloc_blk 24 rfl #[.bool false, .int .u64 0] HRUN.out ?_
            intro ga Wn hB hf hl
            replace KA := Lib.hid ((KA.out).fr0 hf)
            replace SA := Lib.hid ((SA.out).fr0 hf)
            replace FA := Lib.hid (Fr0.trans FA.out hf)
            replace UF := Lib.hid (Nat.le_trans UF.out hf.size)
            replace PZ := Lib.hid ((PZ.out).fr0 hf)
            replace PT := Lib.hid ((PT.out).fr0 hf)
            replace BT := Lib.hid (RdB.fr0 BT.out hf)
            have ZN := Lib.hid hB
            have L8 := Lib.hid (Nat.le_trans LW.out hl)
            have L9 := Lib.hid (Nat.lt_of_lt_of_le LPW.out hl)
            clear hB hf hl LW LPW
            refine hK.out _ _ KA.out ?_
            clear hK
            try simp only [Act.put, List.setIfInBounds_toArray, List.set_cons_zero, List.set_cons_succ]
            have _hI : True := trivial
            clear _hI
            refine wpAnyH_ready (rs := [6]) (by kernel_rfl) (by simp) (consG rfl rfl (fun K hK => ?_) AllReadyH.nil)
            have _hI : True := trivial
            clear _hI
            go_simp
            refine (HRO.out _ _ _ BT.out).mono ?_
            rintro e Wn ⟨A6, c6, rfl, hS, hf⟩
            have LB := UF.out
            replace KA := Lib.hid ((KA.out).fr0 hf)
            replace SA := Lib.hid ((SA.out).fr0 hf)
            replace FA := Lib.hid (Fr0.trans FA.out hf)
            replace UF := Lib.hid (Nat.le_trans UF.out hf.size)
            replace PZ := Lib.hid ((PZ.out).fr0 hf)
            replace PT := Lib.hid ((PT.out).fr0 hf)
            replace ZN := Lib.hid ((ZN.out).fr0 hf)
            have TX9 := Lib.hid (hS.low LB)
            clear hS hf LB
            refine hK.out _ _ KA.out ?_
            clear hK
            try simp only [Act.put, List.setIfInBounds_toArray, List.set_cons_zero, List.set_cons_succ]
            have _hI : True := trivial
            clear _hI
            refine takeH (i := 7) rfl (by kernel_rfl) (by kernel_rfl) (by kernel_rfl) (fun _ _ _ h => h) (v := .tuple #[.agg #[.bool D, .int .u64 (N : Int)], .slice A6 nt c6, .int .i64 0]) (.inl ⟨rfl, fun W hW => (by go_simp; try rfl)⟩) KA.out ?_
            try simp only [Act.put, List.setIfInBounds_toArray, List.set_cons_zero, List.set_cons_succ]
            have _hI : True := trivial
            clear _hI
            refine takeH (i := 8) rfl (by kernel_rfl) (by kernel_rfl) (by kernel_rfl) (fun _ _ _ h => h) (v := .agg #[.bool D, .int .u64 (N : Int)]) (.inl ⟨rfl, fun W hW => (by go_simp; try rfl)⟩) KA.out ?_
            try simp only [Act.put, List.setIfInBounds_toArray, List.set_cons_zero, List.set_cons_succ]
            have _hI : True := trivial
            clear _hI
            refine takeH (i := 9) rfl (by kernel_rfl) (by kernel_rfl) (by kernel_rfl) (fun _ _ _ h => h) (v := .slice A6 nt c6) (.inl ⟨rfl, fun W hW => (by go_simp; try rfl)⟩) KA.out ?_
            try simp only [Act.put, List.setIfInBounds_toArray, List.set_cons_zero, List.set_cons_succ]
            have _hI : True := trivial
            clear _hI
            refine takeH (i := 10) rfl (by kernel_rfl) (by kernel_rfl) (by kernel_rfl) (fun _ _ _ h => h) (v := .int .i64 0) (.inl ⟨rfl, fun W hW => (by go_simp; try rfl)⟩) KA.out ?_
            try simp only [Act.put, List.setIfInBounds_toArray, List.set_cons_zero, List.set_cons_succ]
            have _hI : True := trivial
            clear _hI
            refine wpAnyH_ready (rs := [12]) (by kernel_rfl) (by simp) (consG rfl rfl (fun K hK => ?_) AllReadyH.nil)
            have _hI : True := trivial
            clear _hI
            refine wp_store_blk 24 _ _ rfl ga #[.bool D, .int .u64 (N : Int)] rfl rfl 24 #[.bool false, .int .u64 0] ZN.out (by kernel_rfl) rfl (by simp [Value.oneCell']) ?_
            intro Wn hB hF
            have ZO := ZN.out
            have KO := KA.out
            replace KA := Lib.hid ((KA.out).fr1 hF (fun e => absurd (Blk.two_ty (by rw [e] at KO; exact KO) ZO) (by decide)))
            replace SA := Lib.hid ((SA.out).fr1 hF ZO (by decide))
            replace FA := Lib.hid (Fr0.new FA.out hF L8.out)
            replace UF := Lib.hid (Nat.le_trans UF.out hF.size)
            replace PZ := Lib.hid ((PZ.out).fr1 hF (Nat.ne_of_lt L9.out))
            replace PT := Lib.hid ((PT.out).fr1 hF ZO (by decide))
            replace TX9 := Lib.hid ((TX9.out).fr1 hF ZO (by decide))
            replace ZN := Lib.hid hB
            clear hB hF ZO KO
            refine hK.out _ _ KA.out ?_
            clear hK
            try simp only [Act.put, List.setIfInBounds_toArray, List.set_cons_zero, List.set_cons_succ]
            have _hI : True := trivial
            clear _hI
            refine takeH (i := 13) rfl (by kernel_rfl) (by kernel_rfl) (by kernel_rfl) (fun _ _ _ h => h) (v := .slice A6 nt c6) (.inl ⟨rfl, fun W hW => (by go_simp; try rfl)⟩) KA.out ?_
            try simp only [Act.put, List.setIfInBounds_toArray, List.set_cons_zero, List.set_cons_succ]
            have _hI : True := trivial
            clear _hI
            refine takeH (i := 14) rfl (by kernel_rfl) (by kernel_rfl) (by kernel_rfl) (fun _ _ _ h => h) (v := .int .i64 0) (.inl ⟨rfl, fun W hW => (by go_simp; try rfl)⟩) KA.out ?_
            try simp only [Act.put, List.setIfInBounds_toArray, List.set_cons_zero, List.set_cons_succ]
            refine wpAnyH_done (by kernel_rfl) ?_ _
            go_wp2_with fail
            go_meet
            exact ⟨ga, A6, c6, rfl, rfl, rfl, ZN.out, (TX9.out).rd, PZ.out, (PT.out).rd, FA.out⟩
        ·
          have _hI : True := trivial
          clear _hI
          have LW := Lib.hid (FA.out).size
          have LPW := Lib.hid (PZ.out).lt
          refine wp_alloc_blk 24 rfl #[.bool false, .int .u64 0] HRUN.out ?_
          intro ga Wn hB hf hl
          replace KA := Lib.hid ((KA.out).fr0 hf)
          replace SA := Lib.hid ((SA.out).fr0 hf)
          replace FA := Lib.hid (Fr0.trans FA.out hf)
          replace UF := Lib.hid (Nat.le_trans UF.out hf.size)
          replace PZ := Lib.hid ((PZ.out).fr0 hf)
          replace PT := Lib.hid ((PT.out).fr0 hf)
          replace TG4 := Lib.hid ((TG4.out).fr0 hf)
          have ZN := Lib.hid hB
          have L8 := Lib.hid (Nat.le_trans LW.out hl)
          have L9 := Lib.hid (Nat.lt_of_lt_of_le LPW.out hl)
          clear hB hf hl LW LPW
          refine hK.out _ _ KA.out ?_
          clear hK
          try simp only [Act.put, List.setIfInBounds_toArray, List.set_cons_zero, List.set_cons_succ]
          have _hI : True := trivial
          clear _hI
          refine wpAnyH_ready (rs := [5]) (by kernel_rfl) (by simp) (consG rfl rfl (fun K hK => ?_) AllReadyH.nil)
          have _hI : True := trivial
          clear _hI
          refine wp_append_sl_keep (base := gk) (d := B) (e := TG) _ _ rfl SA.out rfl (Nat.le_trans (by rw [HGK.out]; exact (FA.out).size) (Nat.le_refl _)) (TG4.out).rd rfl (by rw [← List.length_append, HML.out]; have := HM9.out; omega) ?_
          intro A5 c5 Wn hS hF hS2
          have SO := SA.out
          replace KA := Lib.hid ((KA.out).fr hF (fun hk => SO.ne KA.out (by decide) _ hk rfl))
          replace FA := Lib.hid (show Fr0 w Wn from Fr.then FA.out hF (fun i hi hl => absurd (SO.lo i hi).1 (by rw [HGK.out]; omega)))
          replace UF := Lib.hid (Nat.le_trans UF.out hF.size)
          replace PZ := Lib.hid ((PZ.out).fr hF (fun hk => SO.ne PZ.out (by decide) _ hk rfl))
          replace PT := Lib.hid ((PT.out).fr hF (fun k hk hk2 => TL9.out k hk2 hk))
          replace ZN := Lib.hid ((ZN.out).fr hF (fun hk => SO.ne ZN.out (by decide) _ hk rfl))
          replace SA := Lib.hid hS2
          have BT := Lib.hid (show RdB Wn (.slice A5 m c5) (B ++ TG) from by have h := hS.rd; rw [HML.out] at h; exact h)
          rw [show B.length + TG.length = m from by rw [← List.length_append, HML.out]]
          clear hS hF hS2 SO
          refine hK.out _ _ KA.out ?_
          clear hK
          try simp only [Act.put, List.setIfInBounds_toArray, List.set_cons_zero, List.set_cons_succ]
          have _hI : True := trivial
          clear _hI
          refine wpAnyH_ready (rs := [6]) (by kernel_rfl) (by simp) (consG rfl rfl (fun K hK => ?_) AllReadyH.nil)
          have _hI : True := trivial
          clear _hI
          go_simp
          refine (HRO.out _ _ _ BT.out).mono ?_
          rintro e Wn ⟨A6, c6, rfl, hS, hf⟩
          have LB := UF.out
          replace KA := Lib.hid ((KA.out).fr0 hf)
          replace SA := Lib.hid ((SA.out).fr0 hf)
          replace FA := Lib.hid (Fr0.trans FA.out hf)
          replace UF := Lib.hid (Nat.le_trans UF.out hf.size)
          replace PZ := Lib.hid ((PZ.out).fr0 hf)
          replace PT := Lib.hid ((PT.out).fr0 hf)
          replace ZN := Lib.hid ((ZN.out).fr0 hf)
          have TX9 := Lib.hid (hS.low LB)
          clear hS hf LB
          refine hK.out _ _ KA.out ?_
          clear hK
          try simp only [Act.put, List.setIfInBounds_toArray, List.set_cons_zero, List.set_cons_succ]
          have _hI : True := trivial
          clear _hI
          refine takeH (i := 7) rfl (by kernel_rfl) (by kernel_rfl) (by kernel_rfl) (fun _ _ _ h => h) (v := .tuple #[.agg #[.bool D, .int .u64 (N : Int)], .slice A6 nt c6, .int .i64 0]) (.inl ⟨rfl, fun W hW => (by go_simp; try rfl)⟩) KA.out ?_
          try simp only [Act.put, List.setIfInBounds_toArray, List.set_cons_zero, List.set_cons_succ]
          have _hI : True := trivial
          clear _hI
          refine takeH (i := 8) rfl (by kernel_rfl) (by kernel_rfl) (by kernel_rfl) (fun _ _ _ h => h) (v := .agg #[.bool D, .int .u64 (N : Int)]) (.inl ⟨rfl, fun W hW => (by go_simp; try rfl)⟩) KA.out ?_
          try simp only [Act.put, List.setIfInBounds_toArray, List.set_cons_zero, List.set_cons_succ]
          have _hI : True := trivial
          clear _hI
          refine takeH (i := 9) rfl (by kernel_rfl) (by kernel_rfl) (by kernel_rfl) (fun _ _ _ h => h) (v := .slice A6 nt c6) (.inl ⟨rfl, fun W hW => (by go_simp; try rfl)⟩) KA.out ?_
          try simp only [Act.put, List.setIfInBounds_toArray, List.set_cons_zero, List.set_cons_succ]
          have _hI : True := trivial
          clear _hI
          refine takeH (i := 10) rfl (by kernel_rfl) (by kernel_rfl) (by kernel_rfl) (fun _ _ _ h => h) (v := .int .i64 0) (.inl ⟨rfl, fun W hW => (by go_simp; try rfl)⟩) KA.out ?_
          try simp only [Act.put, List.setIfInBounds_toArray, List.set_cons_zero, List.set_cons_succ]
          have _hI : True := trivial
          clear _hI
          refine wpAnyH_ready (rs := [12]) (by kernel_rfl) (by simp) (consG rfl rfl (fun K hK => ?_) AllReadyH.nil)
          have _hI : True := trivial
          clear _hI
          refine wp_store_blk 24 _ _ rfl ga #[.bool D, .int .u64 (N : Int)] rfl rfl 24 #[.bool false, .int .u64 0] ZN.out (by kernel_rfl) rfl (by simp [Value.oneCell']) ?_
          intro Wn hB hF
          have ZO := ZN.out
          have KO := KA.out
          replace KA := Lib.hid ((KA.out).fr1 hF (fun e => absurd (Blk.two_ty (by rw [e] at KO; exact KO) ZO) (by decide)))
          replace SA := Lib.hid ((SA.out).fr1 hF ZO (by decide))
          replace FA := Lib.hid (Fr0.new FA.out hF L8.out)
          replace UF := Lib.hid (Nat.le_trans UF.out hF.size)
          replace PZ := Lib.hid ((PZ.out).fr1 hF (Nat.ne_of_lt L9.out))
          replace PT := Lib.hid ((PT.out).fr1 hF ZO (by decide))
          replace TX9 := Lib.hid ((TX9.out).fr1 hF ZO (by decide))
          replace ZN := Lib.hid hB
          clear hB hF ZO KO
          refine hK.out _ _ KA.out ?_
          clear hK
          try simp only [Act.put, List.setIfInBounds_toArray, List.set_cons_zero, List.set_cons_succ]
          have _hI : True := trivial
          clear _hI
          refine takeH (i := 13) rfl (by kernel_rfl) (by kernel_rfl) (by kernel_rfl) (fun _ _ _ h => h) (v := .slice A6 nt c6) (.inl ⟨rfl, fun W hW => (by go_simp; try rfl)⟩) KA.out ?_
          try simp only [Act.put, List.setIfInBounds_toArray, List.set_cons_zero, List.set_cons_succ]
          have _hI : True := trivial
          clear _hI
          refine takeH (i := 14) rfl (by kernel_rfl) (by kernel_rfl) (by kernel_rfl) (fun _ _ _ h => h) (v := .int .i64 0) (.inl ⟨rfl, fun W hW => (by go_simp; try rfl)⟩) KA.out ?_
          try simp only [Act.put, List.setIfInBounds_toArray, List.set_cons_zero, List.set_cons_succ]
          refine wpAnyH_done (by kernel_rfl) ?_ _
          go_wp2_with fail
          go_meet
          exact ⟨ga, A6, c6, rfl, rfl, rfl, ZN.out, (TX9.out).rd, PZ.out, (PT.out).rd, FA.out⟩
      ·
        have _hI : True := trivial
        clear _hI
        have LW := Lib.hid (FA.out).size
        have LPW := Lib.hid (PZ.out).lt
        refine wp_alloc_blk 24 rfl #[.bool false, .int .u64 0] HRUN.out ?_
        intro ga Wn hB hf hl
        replace KA := Lib.hid ((KA.out).fr0 hf)
        replace SA := Lib.hid ((SA.out).fr0 hf)
        replace FA := Lib.hid (Fr0.trans FA.out hf)
        replace UF := Lib.hid (Nat.le_trans UF.out hf.size)
        replace PZ := Lib.hid ((PZ.out).fr0 hf)
        replace PT := Lib.hid ((PT.out).fr0 hf)
        have ZN := Lib.hid hB
        have L8 := Lib.hid (Nat.le_trans LW.out hl)
        have L9 := Lib.hid (Nat.lt_of_lt_of_le LPW.out hl)
        clear hB hf hl LW LPW
        refine hK.out _ _ KA.out ?_
        clear hK
        try simp only [Act.put, List.setIfInBounds_toArray, List.set_cons_zero, List.set_cons_succ]
        have _hI : True := trivial
        clear _hI
        refine wpAnyH_ready (rs := [4]) (by kernel_rfl) (by simp) (consG rfl rfl (fun K hK => ?_) AllReadyH.nil)
        have _hI : True := trivial
        clear _hI
        go_simp
        refine (HTG.out _ _ _ (SA.out).rd).mono ?_
        rintro e Wn ⟨A4, c4, rfl, hS, hf⟩
        replace KA := Lib.hid ((KA.out).fr0 hf)
        replace SA := Lib.hid ((SA.out).fr0 hf)
        replace FA := Lib.hid (Fr0.trans FA.out hf)
        replace UF := Lib.hid (Nat.le_trans UF.out hf.size)
        replace PZ := Lib.hid ((PZ.out).fr0 hf)
        replace PT := Lib.hid ((PT.out).fr0 hf)
        replace ZN := Lib.hid ((ZN.out).fr0 hf)
        have TG4 := Lib.hid hS
        clear hS hf
        refine hK.out _ _ KA.out ?_
        clear hK
        try simp only [Act.put, List.setIfInBounds_toArray, List.set_cons_zero, List.set_cons_succ]
        have _hI : True := trivial
        clear _hI
        refine wpAnyH_ready (rs := [5]) (by kernel_rfl) (by simp) (consG rfl rfl (fun K hK => ?_) AllReadyH.nil)
        have _hI : True := trivial
        clear _hI
        refine wp_append_sl_keep (base := gk) (d := B) (e := TG) _ _ rfl SA.out rfl (Nat.le_trans (by rw [HGK.out]; exact (FA.out).size) (Nat.le_refl _)) (TG4.out).rd rfl (by rw [← List.length_append, HML.out]; have := HM9.out; omega) ?_
        intro A5 c5 Wn hS hF hS2
        have SO := SA.out
        replace KA := Lib.hid ((KA.out).fr hF (fun hk => SO.ne KA.out (by decide) _ hk rfl))
        replace FA := Lib.hid (show Fr0 w Wn from Fr.then FA.out hF (fun i hi hl => absurd (SO.lo i hi).1 (by rw [HGK.out]; omega)))
        replace UF := Lib.hid (Nat.le_trans UF.out hF.size)
        replace PZ := Lib.hid ((PZ.out).fr hF (fun hk => SO.ne PZ.out (by decide) _ hk rfl))
        replace PT := Lib.hid ((PT.out).fr hF (fun k hk hk2 => TL9.out k hk2 hk))
        replace ZN := Lib.hid ((ZN.out).fr hF (fun hk => SO.ne ZN.out (by decide) _ hk rfl))
        replace SA := Lib.hid hS2
        have BT := Lib.hid (show RdB Wn (.slice A5 m c5) (B ++ TG) from by have h := hS.rd; rw [HML.out] at h; exact h)
        rw [show B.length + TG.length = m from by rw [← List.length_append, HML.out]]
        clear hS hF hS2 SO
        refine hK.out _ _ KA.out ?_
        clear hK
        try simp only [Act.put, List.setIfInBounds_toArray, List.set_cons_zero, List.set_cons_succ]
        have _hI : True := trivial
        clear _hI
        refine wpAnyH_ready (rs := [6]) (by kernel_rfl) (by simp) (consG rfl rfl (fun K hK => ?_) AllReadyH.nil)
        have _hI : True := trivial
        clear _hI
        go_simp
        refine (HRO.out _ _ _ BT.out).mono ?_
        rintro e Wn ⟨A6, c6, rfl, hS, hf⟩
        have LB := UF.out
        replace KA := Lib.hid ((KA.out).fr0 hf)
        replace SA := Lib.hid ((SA.out).fr0 hf)
        replace FA := Lib.hid (Fr0.trans FA.out hf)
        replace UF := Lib.hid (Nat.le_trans UF.out hf.size)
        replace PZ := Lib.hid ((PZ.out).fr0 hf)
        replace PT := Lib.hid ((PT.out).fr0 hf)
        replace ZN := Lib.hid ((ZN.out).fr0 hf)
        have TX9 := Lib.hid (hS.low LB)
        clear hS hf LB
        refine hK.out _ _ KA.out ?_
        clear hK
        try simp only [Act.put, List.setIfInBounds_toArray, List.set_cons_zero, List.set_cons_succ]
        have _hI : True := trivial
        clear _hI
        refine takeH (i := 7) rfl (by kernel_rfl) (by kernel_rfl) (by kernel_rfl) (fun _ _ _ h => h) (v := .tuple #[.agg #[.bool D, .int .u64 (N : Int)], .slice A6 nt c6, .int .i64 0]) (.inl ⟨rfl, fun W hW => (by go_simp; try rfl)⟩) KA.out ?_
        try simp only [Act.put, List.setIfInBounds_toArray, List.set_cons_zero, List.set_cons_succ]
        have _hI : True := trivial
        clear _hI
        refine takeH (i := 8) rfl (by kernel_rfl) (by kernel_rfl) (by kernel_rfl) (fun _ _ _ h => h) (v := .agg #[.bool D, .int .u64 (N : Int)]) (.inl ⟨rfl, fun W hW => (by go_simp; try rfl)⟩) KA.out ?_
        try simp only [Act.put, List.setIfInBounds_toArray, List.set_cons_zero, List.set_cons_succ]
        have _hI : True := trivial
        clear _hI
        refine takeH (i := 9) rfl (by kernel_rfl) (by kernel_rfl) (by kernel_rfl) (fun _ _ _ h => h) (v := .slice A6 nt c6) (.inl ⟨rfl, fun W hW => (by go_simp; try rfl)⟩) KA.out ?_
        try simp only [Act.put, List.setIfInBounds_toArray, List.set_cons_zero, List.set_cons_succ]
        have _hI : True := trivial
        clear _hI
        refine takeH (i := 10) rfl (by kernel_rfl) (by kernel_rfl) (by kernel_rfl) (fun _ _ _ h => h) (v := .int .i64 0) (.inl ⟨rfl, fun W hW => (by go_simp; try rfl)⟩) KA.out ?_
        try simp only [Act.put, List.setIfInBounds_toArray, List.set_cons_zero, List.set_cons_succ]
        have _hI : True := trivial
        clear _hI
        refine wpAnyH_ready (rs := [12]) (by kernel_rfl) (by simp) (consG rfl rfl (fun K hK => ?_) AllReadyH.nil)
        have _hI : True := trivial
        clear _hI
        refine wp_store_blk 24 _ _ rfl ga #[.bool D, .int .u64 (N : Int)] rfl rfl 24 #[.bool false, .int .u64 0] ZN.out (by kernel_rfl) rfl (by simp [Value.oneCell']) ?_
        intro Wn hB hF
        have ZO := ZN.out
        have KO := KA.out
        replace KA := Lib.hid ((KA.out).fr1 hF (fun e => absurd (Blk.two_ty (by rw [e] at KO; exact KO) ZO) (by decide)))
        replace SA := Lib.hid ((SA.out).fr1 hF ZO (by decide))
        replace FA := Lib.hid (Fr0.new FA.out hF L8.out)
        replace UF := Lib.hid (Nat.le_trans UF.out hF.size)
        replace PZ := Lib.hid ((PZ.out).fr1 hF (Nat.ne_of_lt L9.out))
        replace PT := Lib.hid ((PT.out).fr1 hF ZO (by decide))
        replace TX9 := Lib.hid ((TX9.out).fr1 hF ZO (by decide))
        replace ZN := Lib.hid hB
        clear hB hF ZO KO
        refine hK.out _ _ KA.out ?_
        clear hK
        try simp only [Act.put, List.setIfInBounds_toArray, List.set_cons_zero, List.set_cons_succ]
        have _hI : True := trivial
        clear _hI
        refine takeH (i := 13) rfl (by kernel_rfl) (by kernel_rfl) (by kernel_rfl) (fun _ _ _ h => h) (v := .slice A6 nt c6) (.inl ⟨rfl, fun W hW => (by go_simp; try rfl)⟩) KA.out ?_
        try simp only [Act.put, List.setIfInBounds_toArray, List.set_cons_zero, List.set_cons_succ]
        have _hI : True := trivial
        clear _hI
        refine takeH (i := 14) rfl (by kernel_rfl) (by kernel_rfl) (by kernel_rfl) (fun _ _ _ h => h) (v := .int .i64 0) (.inl ⟨rfl, fun W hW => (by go_simp; try rfl)⟩) KA.out ?_
        try simp only [Act.put, List.setIfInBounds_toArray, List.set_cons_zero, List.set_cons_succ]
        refine wpAnyH_done (by kernel_rfl) ?_ _
        go_wp2_with fail
        go_meet
        exact ⟨ga, A6, c6, rfl, rfl, rfl, ZN.out, (TX9.out).rd, PZ.out, (PT.out).rd, FA.out⟩
    case rest =>
      obtain ⟨g11, A12, c12, rfl, rfl, rfl, hZ, hT, hZ2, hT2, hF⟩ := hcut
      have F9 := Lib.hid hF
      have n0 := hZ.cell 0 rfl
      have n1 := hZ.cell 1 rfl
      have m0 := hZ2.cell 0 rfl
      have m1 := hZ2.cell 1 rfl
      have cs1 := conv_ownN HTL.out hT
      have cs2 := conv_ownN HTL.out hT2
      clear hZ hT hZ2 hT2 hF
      go_wp2_with fail
      go_ret
      exact ⟨rfl, F9.out⟩
namespace SealMade
open Go.ChangeShapes Go.WideShapes Go.ChangeAt
open Go.ChangeMaps (open_string shut_string)

theorem own : ownKnob Try.prog.godebug = none := by kernel_rfl
theorem laidOut : laidOutB Try.prog = true := by kernel_rfl

set_option maxRecDepth 100000 in
theorem lifted (os : Os) (started : os.Started) (H : Type) (enc : TypeId × Value → H) :
    ReturnsInHanded {} Try.checked os 5 .any (Rows.sealMadeSpec.pre6 enc Try.prog Try.f5 Rows.sealMadeRow.domain false) (Rows.sealMadeSpec.post enc Try.prog Try.f5 false true false false) := by
  refine returnsInHanded_of_change (C := Try.checked) own started (by kernel_rfl) Try.func5
    (ChangeSpec.witness6 (enc := enc) (C := Try.checked) false ⟨#[], #[.agg (Array.replicate 48 (.int .u8 0)), .int .u64 0, .slice none 0 0], []⟩ 8 (by kernel_rfl) (by kernel_rfl) (by kernel_rfl) (by kernel_rfl)) ?_
  intro W base args ds gs before hval0 hW hcnd _
  have hval : ∀ (j : Nat) t v, Try.f5.params[j]? = some t → args[j]? = some v → Value.okWide Try.prog W .any base t v := hval0
  have hW' := hW
  obtain ⟨p, q, hA0, hV, rfl, hfz, hnd⟩ := hW
  have hA : DataW.TrodAll enc Try.prog W 0 (fun _ => true) true Try.f5.params.toList args.toList ds p := hA0
  rw [Try.params5] at hA hval
  obtain ⟨v0, vs0, d0', ds0, p0, q0, hargs, rfl, rfl, h0, r0⟩ := trodAll_cons hA
  obtain ⟨v1, vs1, d1', ds1, p1, q1, rfl, rfl, rfl, h1, r1⟩ := trodAll_cons r0
  obtain ⟨v2, vs2, d2', ds2, p2, q2, rfl, rfl, rfl, h2, r2⟩ := trodAll_cons r1
  obtain ⟨rfl, rfl, rfl⟩ := trodAll_nil r2
  obtain rfl : args = #[v0, v1, v2] := by cases args; simp_all
  obtain ⟨rfl, rfl⟩ := trodVars_none hV
  have k0 := h0
  have lt0 : ∀ x ∈ p0, x.block < W.heap.size := by obtain ⟨m, hm⟩ := k0; exact DataW.trod_lt m _ _ _ hm
  obtain ⟨code0, mark0, rfl, hc0, hm0⟩ := arg_key (hval 0 34 v0 rfl rfl) h0
  obtain ⟨n1, rfl, rfl, rfl, hn1⟩ := open_int Try.underlying22 (hval 1 22 v1 rfl rfl) h1
  obtain ⟨m1, rfl, hm1⟩ := lit_u64 hn1
  have k2 := h2
  have lt2 : ∀ x ∈ p2, x.block < W.heap.size := by obtain ⟨m, hm⟩ := k2; exact DataW.trod_lt m _ _ _ hm
  obtain ⟨A2, n2, c2, rfl⟩ := okWide_slice Try.underlying35 (hval 2 35 v2 rfl rfl)
  obtain ⟨fuel2, hf2⟩ := h2
  obtain ⟨d2, hy2⟩ := arg_bytes Try.underlying35 Try.underlying5 (by kernel_rfl) hf2
  clear hA0 hval0
  refine (sealMade_any hc0 hm0 hm1 hy2).mono fun e W' ⟨he, hfr⟩ => ?_
  have bel : Below W.heap.size W W' := Fr0.below hfr
  subst he
  exact ⟨_, rfl, _, _, _, [], _, [], hW', trodAll_mk1 (shut_bool Try.underlying4 _), (trodAll_cons_mk (Below.trod laidOut (by kernel_rfl) (of_decide_eq_true (by kernel_rfl)) k0 bel lt0) (trodAll_cons_mk (shut_int Try.underlying22 hn1) (trodAll_cons_mk (Below.trod laidOut (by kernel_rfl) (of_decide_eq_true (by kernel_rfl)) k2 bel lt2) trodAll_mk0))), rfl, bel.frame _, fun h => by cases h⟩

theorem over : Rows.sealMadeRow.holds Try.pinned (OpenSpec.ofChange Rows.sealMadeSpec) :=
  OpenClaim.holds_of_wide 5 Try.f5 rfl rfl rfl rfl rfl rfl rfl ⟨rfl, rfl, rfl, rfl, rfl⟩ rfl rfl rfl rfl rfl (by kernel_rfl) Try.func5 (by kernel_rfl)
    (of_decide_eq_true (by kernel_rfl)) (by unfold Func.isWrapper; first | (rw [if_pos (by decide +kernel)]; kernel_rfl) | (rw [if_neg (by decide +kernel)]; exact ⟨rfl, rfl⟩))
    (fun os started H enc _ => lifted os started H enc)

theorem proved : Rows.SealMadeSaid := over
#print axioms proved
end SealMade
end Go.Proofs.Ytpmindbipclphaa
