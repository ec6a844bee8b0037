/- aes.rounds: a key's rounds. Conditions stand in the statements. -/
import Derived.Test.YtpmindbipclphaaAesMix
import Derived.Test.YtpmindbipclphaaAesLaw2
import Derived.Test.YtpmindbipclphaaCopy
import Derived.Test.YtpmindbipclphaaStepsG
set_option linter.unusedSimpArgs false
set_option linter.unusedVariables false
namespace Go.Proofs.Ytpmindbipclphaa
open Go.RowKit

theorem list_store_part {P : Program} {ops : Array Oper} {rest : List Oper} {o : Oper} {a : Act} {w : World} {Q : Exit → Act → World → Prop} (hgd : o.guard = none) (ty : TypeId) (x y : Operand) (ho : o.op = .store ty x y) (g off : Nat) (cells : Array Value) (hx : a.eval x = .pointer (some ⟨g, off, none⟩)) (hy : a.eval y = .agg cells)
    (t : TypeId) (old : Array Value) (hg : Blk w g old t) (hin : off + cells.size ≤ old.size) (hi : (P.info? ty).map (·.size) = some cells.size) (h1 : cells.all (·.oneCell') = true)
    (h : ∀ W1, Blk W1 g (putAt old off cells.toList) t → Fr1 g w W1 → wpList P ops Q rest (a.put o.dst undef) W1) : wpList P ops Q (o :: rest) a w :=
  wpList_plain hgd fun _ hK => wp_store_part ty x y ho g off cells hx hy t old hg hin hi h1 (fun W1 hB hF => hK _ _ (h W1 hB hF))
def z176A : Array Value := (byts (List.replicate 176 0)).toArray
theorem z176_run (W : World) : (Instr.alloc 74 true (.tuple #[])).run Try.prog W = .ok (.pointer (some ⟨W.heap.size, 0, none⟩)) (W.alloc (.cells z176A 74)) := by kernel_rfl
theorem z4_run (W : World) : (Instr.alloc 99 true (.tuple #[])).run Try.prog W = .ok (.pointer (some ⟨W.heap.size, 0, none⟩)) (W.alloc (.cells (byts [0, 0, 0, 0]).toArray 99)) := by kernel_rfl
set_option maxHeartbeats 8000000 in
set_option maxRecDepth 100000 in
theorem arounds_any {key : List UInt8} {gs : Nat} {w : World} (hk : key.length = 16) (hs : Blk w gs (byts sbox).toArray 72) : Calls Try.prog 63 #[.agg (byts key).toArray, .pointer (some ⟨gs, 0, none⟩)] w fun e w' => e = .returned (.agg (byts (ksL key)).toArray) ∧ Fr0 w w' := by
  have TL := Lib.hid (ksL_len key)
  have TH := Lib.hid (fun i k => ksL_head key (i := i) (k := k))
  have TR := Lib.hid (fun i k => ksL_rest key (i := i) (k := k))
  have TK := Lib.hid (fill_key hk)
  have HD := Lib.hid (fun i => show hdL key i = [swp ((ksL key).getD (16 * (i - 1) + 13) 0) ^^^ pwU (i - 1), swp ((ksL key).getD (16 * (i - 1) + 14) 0), swp ((ksL key).getD (16 * (i - 1) + 15) 0), swp ((ksL key).getD (16 * (i - 1) + 12) 0)] from rfl)
  have HSW := Lib.hid (fun x => show swp x = sbox.getD x.toNat 0 from rfl)
  have HPW := Lib.hid (fun n => show pwU (n + 1) = tms (pwU n) 2 from rfl)
  have HP0 := Lib.hid (show pwU 0 = 1 from rfl)
  have SL := Lib.hid sbox_len
  have HSX := Lib.hid hs
  have HI := Lib.hid (show (Try.prog.info? 74).map (·.size) = some (byts (ksL key)).toArray.size by rw [byts_size, TL.out]; kernel_rfl)
  have HZ := Lib.hid (show z176A.size = (byts (ksL key)).toArray.size by rw [byts_size, TL.out]; rfl)
  have ha8 := byts_all (ksL key)
  have hak := byts_all key
  have HIK := Lib.hid (a16_info hk)
  have HKS := Lib.hid (show (byts key).toArray.size = 16 by rw [byts_size, hk])
  have HKP := Lib.hid (putAt_zeros (n := 176) (d := key) (by omega))
  have B0 := Lib.hid (Blk.new w (byts key).toArray 31)
  have HRUN := Lib.hid (fun W => z176_run W)
  have HRUN16 := Lib.hid (fun W => z16_run W)
  have HRUN4 := Lib.hid (fun W => z4_run W)
  obtain ⟨T, hT⟩ : ∃ T, T = ksL key := ⟨_, rfl⟩
  obtain ⟨H, hH⟩ : ∃ T, T = hdL key := ⟨_, rfl⟩
  obtain ⟨sb, hsb⟩ : ∃ T, T = sbox := ⟨_, rfl⟩
  obtain ⟨pw, hpw⟩ : ∃ T, T = pwU := ⟨_, rfl⟩
  obtain ⟨z, hz⟩ : ∃ z, z = z176A := ⟨_, rfl⟩
  obtain ⟨z16, hz16⟩ : ∃ z, z = z16A := ⟨_, rfl⟩
  obtain ⟨z4, hz4⟩ : ∃ z, z = (byts [0, 0, 0, 0]).toArray := ⟨_, rfl⟩
  obtain ⟨ck, hck⟩ : ∃ c, c = (byts key).toArray := ⟨_, rfl⟩
  rw [← hT] at TL TH TR TK ha8 HI HZ HD ⊢
  rw [← hH] at TH HD
  rw [← hsb] at HSX SL HSW
  rw [← hpw] at HD HPW HP0
  have HZZ := Lib.hid (hz.trans (show z176A = (byts (List.replicate 176 0)).toArray from rfl))
  rw [← hz] at HRUN HZ
  rw [← hz16] at HRUN16
  have HZ16 := Lib.hid (show z16.size = 16 by rw [hz16]; rfl)
  have HZ4 := Lib.hid (show z4.size = 4 by rw [hz4]; rfl)
  rw [← hz4] at HRUN4
  rw [← hck] at B0 HIK HKS hak ⊢
  have HCK := Lib.hid hck
  clear hT hH hz hz16 hz4 hck hk hsb hs hpw
  go_enter Try.func63, Try.ntmps63
  go_upto_region 5 with (first
    | (have _q := Z5; refine list_store_part rfl 31 _ _ rfl g5 0 ck rfl rfl 74 z Z5.out (by rw [HKS.out, HZZ.out, byts_size, List.length_replicate]; decide) HIK.out hak ?_; intro w6 hB hF; have P6 := Lib.hid hB; have F6 := Lib.hid hF; clear hB hF)
    | (have _q := Z4; refine list_alloc_blk rfl 74 rfl z HRUN.out ?_; intro g5 w5 hB hF hl; have Z5 := Lib.hid hB; have F5 := Lib.hid hF; have L5 := Lib.hid hl; have K5 := Lib.hid ((K4.out).fr0 hF); clear hB hF hl)
    | (refine list_alloc_blk rfl 74 rfl z HRUN.out ?_; intro g4 w4 hB hF hl; have Z4 := Lib.hid hB; have FF := Lib.hid hF; have L4 := Lib.hid hl; have K4 := Lib.hid ((B0.out).fr0 hF); clear hB hF hl)
    | (refine list_load_blk rfl 31 _ rfl w.heap.size rfl 31 ck K5.out _ Try.underlying31 rfl HIK.out ?_))
  have hl4 := L4.out
  have hl5 := L5.out
  have hz4 := (Z4.out).lt
  have hsl := (HSX.out).lt
  have hsz := (FF.out).size
  simp only [World.size_alloc] at hl4 hsz
  have n45 : g4 ≠ g5 := by omega
  have ns5 : gs ≠ g5 := by omega
  have LG4 := Lib.hid (show w.heap.size ≤ g4 by omega)
  have LG5 := Lib.hid (show w.heap.size ≤ g5 by omega)
  have FW := Lib.hid (show Fr0 w w6 from Fr0.new (Fr0.trans (Fr0.trans ((Fr0.refl w).alloc _) FF.out) F5.out) F6.out LG5.out)
  have S6 := Lib.hid (((HSX.out).fr0 (Fr0.trans (Fr0.trans ((Fr0.refl w).alloc _) FF.out) F5.out)).fr1 F6.out ns5)
  have Z6 := Lib.hid (((Z4.out).fr0 F5.out).fr1 F6.out n45)
  have P6' := Lib.hid (show Blk w6 g5 (byts (fillU T 176 16)).toArray 74 by
    have h := P6.out
    rw [HZZ.out, HCK.out, List.toList_toArray, HKP.out, TK.out] at h
    exact h)
  clear hl4 hl5 hz4 hsl hsz FF F5 F6 K4 K5 Z4 Z5 P6 B0 L4 L5 HSX _q
  go_loopw [6, 7] (fun v6 v7 wr => ∃ j : Nat, j ≤ 10 ∧ v7 = .int .i64 ((j : Int) + 1) ∧ v6 = .int .u8 ((pw j).toNat : Int) ∧ Blk wr gs (byts sb).toArray 72 ∧ Blk wr g5 (byts (fillU T 176 (16 * (j + 1)))).toArray 74 ∧ Blk wr g4 z 74 ∧ Fr0 w wr) (fun _ v7 _ => 11 - (intOf v7).toNat)
  case atStart => exact ⟨0, by omega, rfl, by rw [HP0.out]; rfl, S6.out, P6'.out, Z6.out, FW.out⟩
  case round =>
    obtain ⟨j, hj, rfl, rfl, hS, hT, hZ, hF⟩ := hrel
    clear S6 P6' Z6 FW
    have KS := Lib.hid hS
    have KT := Lib.hid hT
    have KZ := Lib.hid hZ
    have HF := Lib.hid hF
    by_cases hlt : j < 10
    · have hr16 := rkL_len TL.out (show j < 11 by omega)
      have hrow := hT.range (16 * j) 16
      rw [fill_row TL.out (by omega) (by omega)] at hrow
      have HRW := Lib.hid (show wr.rangeAt g5 (j * 16) (byts (rkL T j)) by rw [Nat.mul_comm]; exact hrow)
      have HIR := Lib.hid (show (Try.prog.info? 31).map (·.size) = some (byts (rkL T j)).length by rw [byts_len, hr16]; kernel_rfl)
      have HIC := Lib.hid (a16_info hr16)
      have HZC := Lib.hid (show z16.size = (byts (rkL T j)).toArray.size by rw [HZ16.out, byts_size, hr16])
      have hrc := byts_all (rkL T j)
      have RA := Lib.hid (fun k (h : k < 16) => rkL_at (ks := T) (i := j) h)
      obtain ⟨rw, hrw⟩ : ∃ r, r = rkL T j := ⟨_, rfl⟩
      rw [← hrw] at HRW HIR HIC HZC hrc RA hr16
      obtain ⟨cr, hcr⟩ : ∃ r, r = (byts rw).toArray := ⟨_, rfl⟩
      rw [← hcr] at HIC HZC hrc
      have HCR := Lib.hid hcr
      have HRL := Lib.hid hr16
      have e1 : IntKind.i64.wrap ((j : Int) + 1 - 1) = (j : Int) := by rw [IntWalk.i64_in _ (by omega)]; omega
      have e2 : (j : Int) + 1 - 1 = (j : Int) := by omega
      have i0 : (0 : Int) ≤ (j : Int) := by omega
      have i1 : (j : Int) < 11 := by omega
      have i2 : (j : Int) + 1 < 11 := by omega
      clear hS hT hZ hF hrow hrw hcr hr16
      go_upto_region 8 with (first
        | (refine wpList_load_mid rfl 31 _ rfl g5 (j * 16) rfl (byts rw) _ HRW.out Try.underlying31 rfl HIR.out ?_; rw [← HCR.out])
        | (have _q := R8; refine list_store_blk rfl 31 _ _ rfl g8 cr rfl rfl 31 z16 R8.out HIC.out HZC.out hrc ?_; intro w9 hB hF; have R9 := Lib.hid hB; have F9 := Lib.hid hF; clear hB hF)
        | (refine list_alloc_blk rfl 31 rfl z16 HRUN16.out ?_; intro g8 w8 hB hF hl; have R8 := Lib.hid hB; have F8 := Lib.hid hF; have L8 := Lib.hid hl; clear hB hF hl))
      have GF := Lib.hid (Fr0.new F8.out F9.out L8.out)
      have KS9 := Lib.hid ((KS.out).fr0 GF.out)
      have KT9 := Lib.hid ((KT.out).fr0 GF.out)
      have KZ9 := Lib.hid ((KZ.out).fr0 GF.out)
      have HF9 := Lib.hid (Fr0.trans HF.out GF.out)
      have hR := R9.out
      rw [HCR.out] at hR
      have hS := KS9.out
      have c12 := hR.u8 (i := 12) (by rw [HRL.out]; decide)
      have c13 := hR.u8 (i := 13) (by rw [HRL.out]; decide)
      have c14 := hR.u8 (i := 14) (by rw [HRL.out]; decide)
      have c15 := hR.u8 (i := 15) (by rw [HRL.out]; decide)
      have HDJ := Lib.hid (show H (j + 1) = [sb.getD (rw.getD 13 0).toNat 0 ^^^ pw j, sb.getD (rw.getD 14 0).toNat 0, sb.getD (rw.getD 15 0).toNat 0, sb.getD (rw.getD 12 0).toNat 0] by
        rw [HD.out (j + 1), RA.out 12 (by omega), RA.out 13 (by omega), RA.out 14 (by omega), RA.out 15 (by omega), HSW.out, HSW.out, HSW.out, HSW.out]; rfl)
      obtain ⟨x12, h12⟩ : ∃ x, x = rw.getD 12 0 := ⟨_, rfl⟩
      obtain ⟨x13, h13⟩ : ∃ x, x = rw.getD 13 0 := ⟨_, rfl⟩
      obtain ⟨x14, h14⟩ : ∃ x, x = rw.getD 14 0 := ⟨_, rfl⟩
      obtain ⟨x15, h15⟩ : ∃ x, x = rw.getD 15 0 := ⟨_, rfl⟩
      rw [← h12] at c12 HDJ
      rw [← h13] at c13 HDJ
      rw [← h14] at c14 HDJ
      rw [← h15] at c15 HDJ
      have l12 := x12.toNat_lt
      have l13 := x13.toNat_lt
      have l14 := x14.toNat_lt
      have l15 := x15.toNat_lt
      have s12 := hS.u8 (i := x12.toNat) (by rw [SL.out]; exact l12)
      have s13 := hS.u8 (i := x13.toNat) (by rw [SL.out]; exact l13)
      have s14 := hS.u8 (i := x14.toNat) (by rw [SL.out]; exact l14)
      have s15 := hS.u8 (i := x15.toNat) (by rw [SL.out]; exact l15)
      obtain ⟨y12, k12⟩ : ∃ x, x = sb.getD x12.toNat 0 := ⟨_, rfl⟩
      obtain ⟨y13, k13⟩ : ∃ x, x = sb.getD x13.toNat 0 := ⟨_, rfl⟩
      obtain ⟨y14, k14⟩ : ∃ x, x = sb.getD x14.toNat 0 := ⟨_, rfl⟩
      obtain ⟨y15, k15⟩ : ∃ x, x = sb.getD x15.toNat 0 := ⟨_, rfl⟩
      rw [← k12] at s12 HDJ
      rw [← k13] at s13 HDJ
      rw [← k14] at s14 HDJ
      rw [← k15] at s15 HDJ
      obtain ⟨m, hm⟩ : ∃ x, x = pw j := ⟨_, rfl⟩
      have HMJ := Lib.hid hm
      rw [← hm] at HDJ ⊢
      have hx := xorU y13 m
      obtain ⟨h0, hh0⟩ : ∃ x, x = y13 ^^^ m := ⟨_, rfl⟩
      rw [← hh0] at hx HDJ
      have b12 : (x12.toNat : Int) < 256 := by omega
      have b13 : (x13.toNat : Int) < 256 := by omega
      have b14 : (x14.toNat : Int) < 256 := by omega
      have b15 : (x15.toNat : Int) < 256 := by omega
      have HI4 := Lib.hid (show (Try.prog.info? 99).map (·.size) = some (byts [h0, y14, y15, y12]).toArray.size by rw [byts_size]; kernel_rfl)
      have HZ4' := Lib.hid (show z4.size = (byts [h0, y14, y15, y12]).toArray.size by rw [HZ4.out, byts_size]; rfl)
      have hr4 := byts_all [h0, y14, y15, y12]
      have C12 := Lib.hid (show w9.drew.cell? ⟨g8, 12, none⟩ = some (.int .u8 (x12.toNat : Int)) from c12)
      have S12 := Lib.hid (show w9.drew.cell? ⟨gs, x12.toNat, none⟩ = some (.int .u8 (y12.toNat : Int)) from s12)
      have C13 := Lib.hid (show w9.drew.cell? ⟨g8, 13, none⟩ = some (.int .u8 (x13.toNat : Int)) from c13)
      have S13 := Lib.hid (show w9.drew.cell? ⟨gs, x13.toNat, none⟩ = some (.int .u8 (y13.toNat : Int)) from s13)
      have C14 := Lib.hid (show w9.drew.cell? ⟨g8, 14, none⟩ = some (.int .u8 (x14.toNat : Int)) from c14)
      have S14 := Lib.hid (show w9.drew.cell? ⟨gs, x14.toNat, none⟩ = some (.int .u8 (y14.toNat : Int)) from s14)
      have C15 := Lib.hid (show w9.drew.cell? ⟨g8, 15, none⟩ = some (.int .u8 (x15.toNat : Int)) from c15)
      have S15 := Lib.hid (show w9.drew.cell? ⟨gs, x15.toNat, none⟩ = some (.int .u8 (y15.toNat : Int)) from s15)
      have HS9 := Lib.hid ((KS9.out).drew)
      have HT9 := Lib.hid ((KT9.out).drew)
      have HZ9 := Lib.hid ((KZ9.out).drew)
      have HR9 := Lib.hid ((R9.out).drew)
      have HF9 := Lib.hid ((HF9.out).drew)
      clear c12 c13 c14 c15 s12 s13 s14 s15
      clear h12 h13 h14 h15 k12 k13 k14 k15 hm hh0 hR hS KS KT KZ HF GF F8 F9 L8 R8
      refine wp_region_held_drew (S := (fun W => Fr0 w9.drew W)) (by kernel_rfl) (Fr0.refl _) (fun hHeld => ?_)
      generalize w9.drew = wq at *
      have _hI : True := trivial
      clear _hI
      refine takeH (i := 0) rfl (by kernel_rfl) (by kernel_rfl) (by kernel_rfl) (fun _ _ _ h => h) (.inl ⟨rfl, fun W hW => (by go_simp; try rfl)⟩) (Fr0.refl wq) ?_
      try simp only [Act.put, List.setIfInBounds_toArray, List.set_cons_zero, List.set_cons_succ]
      have _hI : True := trivial
      clear _hI
      refine takeH (i := 1) rfl (by kernel_rfl) (by kernel_rfl) (by kernel_rfl) (fun _ _ _ h => h) (.inl ⟨rfl, fun W hW => (by go_simp; try rfl)⟩) (Fr0.refl wq) ?_
      try simp only [Act.put, List.setIfInBounds_toArray, List.set_cons_zero, List.set_cons_succ]
      have _hI : True := trivial
      clear _hI
      refine takeH (i := 2) rfl (by kernel_rfl) (by kernel_rfl) (by kernel_rfl) (fun _ _ _ h => h) (v := .int .u8 (x13.toNat : Int)) (.inl ⟨rfl, fun W hW => (by have f := hW.cell C13.out; go_simp; try rfl)⟩) (Fr0.refl wq) ?_
      try simp only [Act.put, List.setIfInBounds_toArray, List.set_cons_zero, List.set_cons_succ]
      have _hI : True := trivial
      clear _hI
      refine takeH (i := 3) rfl (by kernel_rfl) (by kernel_rfl) (by kernel_rfl) (fun _ _ _ h => h) (.inl ⟨rfl, fun W hW => (by go_simp; try rfl)⟩) (Fr0.refl wq) ?_
      try simp only [Act.put, List.setIfInBounds_toArray, List.set_cons_zero, List.set_cons_succ]
      have _hI : True := trivial
      clear _hI
      refine takeH (i := 4) rfl (by kernel_rfl) (by kernel_rfl) (by kernel_rfl) (fun _ _ _ h => h) (.inl ⟨rfl, fun W hW => (by go_simp; try rfl)⟩) (Fr0.refl wq) ?_
      try simp only [Act.put, List.setIfInBounds_toArray, List.set_cons_zero, List.set_cons_succ]
      have _hI : True := trivial
      clear _hI
      refine takeH (i := 5) rfl (by kernel_rfl) (by kernel_rfl) (by kernel_rfl) (fun _ _ _ h => h) (v := .int .u8 (y13.toNat : Int)) (.inl ⟨rfl, fun W hW => (by have f := hW.cell S13.out; go_simp; try rfl)⟩) (Fr0.refl wq) ?_
      try simp only [Act.put, List.setIfInBounds_toArray, List.set_cons_zero, List.set_cons_succ]
      have _hI : True := trivial
      clear _hI
      refine takeH (i := 6) rfl (by kernel_rfl) (by kernel_rfl) (by kernel_rfl) (fun _ _ _ h => h) (.inl ⟨rfl, fun W hW => (by go_simp; try rfl)⟩) (Fr0.refl wq) ?_
      try simp only [Act.put, List.setIfInBounds_toArray, List.set_cons_zero, List.set_cons_succ]
      have _hI : True := trivial
      clear _hI
      refine takeH (i := 7) rfl (by kernel_rfl) (by kernel_rfl) (by kernel_rfl) (fun _ _ _ h => h) (v := .int .u8 (h0.toNat : Int)) (.inl ⟨rfl, fun W hW => (by go_simp; try rfl)⟩) (Fr0.refl wq) ?_
      try simp only [Act.put, List.setIfInBounds_toArray, List.set_cons_zero, List.set_cons_succ]
      have _hI : True := trivial
      clear _hI
      refine takeH (i := 8) rfl (by kernel_rfl) (by kernel_rfl) (by kernel_rfl) (fun _ _ _ h => h) (.inl ⟨rfl, fun W hW => (by go_simp; try rfl)⟩) (Fr0.refl wq) ?_
      try simp only [Act.put, List.setIfInBounds_toArray, List.set_cons_zero, List.set_cons_succ]
      have _hI : True := trivial
      clear _hI
      refine takeH (i := 9) rfl (by kernel_rfl) (by kernel_rfl) (by kernel_rfl) (fun _ _ _ h => h) (.inl ⟨rfl, fun W hW => (by go_simp; try rfl)⟩) (Fr0.refl wq) ?_
      try simp only [Act.put, List.setIfInBounds_toArray, List.set_cons_zero, List.set_cons_succ]
      have _hI : True := trivial
      clear _hI
      refine takeH (i := 10) rfl (by kernel_rfl) (by kernel_rfl) (by kernel_rfl) (fun _ _ _ h => h) (v := .int .u8 (x14.toNat : Int)) (.inl ⟨rfl, fun W hW => (by have f := hW.cell C14.out; go_simp; try rfl)⟩) (Fr0.refl wq) ?_
      try simp only [Act.put, List.setIfInBounds_toArray, List.set_cons_zero, List.set_cons_succ]
      have _hI : True := trivial
      clear _hI
      refine takeH (i := 11) rfl (by kernel_rfl) (by kernel_rfl) (by kernel_rfl) (fun _ _ _ h => h) (.inl ⟨rfl, fun W hW => (by go_simp; try rfl)⟩) (Fr0.refl wq) ?_
      try simp only [Act.put, List.setIfInBounds_toArray, List.set_cons_zero, List.set_cons_succ]
      have _hI : True := trivial
      clear _hI
      refine takeH (i := 12) rfl (by kernel_rfl) (by kernel_rfl) (by kernel_rfl) (fun _ _ _ h => h) (.inl ⟨rfl, fun W hW => (by go_simp; try rfl)⟩) (Fr0.refl wq) ?_
      try simp only [Act.put, List.setIfInBounds_toArray, List.set_cons_zero, List.set_cons_succ]
      have _hI : True := trivial
      clear _hI
      refine takeH (i := 13) rfl (by kernel_rfl) (by kernel_rfl) (by kernel_rfl) (fun _ _ _ h => h) (v := .int .u8 (y14.toNat : Int)) (.inl ⟨rfl, fun W hW => (by have f := hW.cell S14.out; go_simp; try rfl)⟩) (Fr0.refl wq) ?_
      try simp only [Act.put, List.setIfInBounds_toArray, List.set_cons_zero, List.set_cons_succ]
      have _hI : True := trivial
      clear _hI
      refine takeH (i := 14) rfl (by kernel_rfl) (by kernel_rfl) (by kernel_rfl) (fun _ _ _ h => h) (.inl ⟨rfl, fun W hW => (by go_simp; try rfl)⟩) (Fr0.refl wq) ?_
      try simp only [Act.put, List.setIfInBounds_toArray, List.set_cons_zero, List.set_cons_succ]
      have _hI : True := trivial
      clear _hI
      refine takeH (i := 15) rfl (by kernel_rfl) (by kernel_rfl) (by kernel_rfl) (fun _ _ _ h => h) (.inl ⟨rfl, fun W hW => (by go_simp; try rfl)⟩) (Fr0.refl wq) ?_
      try simp only [Act.put, List.setIfInBounds_toArray, List.set_cons_zero, List.set_cons_succ]
      have _hI : True := trivial
      clear _hI
      refine takeH (i := 16) rfl (by kernel_rfl) (by kernel_rfl) (by kernel_rfl) (fun _ _ _ h => h) (v := .int .u8 (x15.toNat : Int)) (.inl ⟨rfl, fun W hW => (by have f := hW.cell C15.out; go_simp; try rfl)⟩) (Fr0.refl wq) ?_
      try simp only [Act.put, List.setIfInBounds_toArray, List.set_cons_zero, List.set_cons_succ]
      have _hI : True := trivial
      clear _hI
      refine takeH (i := 17) rfl (by kernel_rfl) (by kernel_rfl) (by kernel_rfl) (fun _ _ _ h => h) (.inl ⟨rfl, fun W hW => (by go_simp; try rfl)⟩) (Fr0.refl wq) ?_
      try simp only [Act.put, List.setIfInBounds_toArray, List.set_cons_zero, List.set_cons_succ]
      have _hI : True := trivial
      clear _hI
      refine takeH (i := 18) rfl (by kernel_rfl) (by kernel_rfl) (by kernel_rfl) (fun _ _ _ h => h) (.inl ⟨rfl, fun W hW => (by go_simp; try rfl)⟩) (Fr0.refl wq) ?_
      try simp only [Act.put, List.setIfInBounds_toArray, List.set_cons_zero, List.set_cons_succ]
      have _hI : True := trivial
      clear _hI
      refine takeH (i := 19) rfl (by kernel_rfl) (by kernel_rfl) (by kernel_rfl) (fun _ _ _ h => h) (v := .int .u8 (y15.toNat : Int)) (.inl ⟨rfl, fun W hW => (by have f := hW.cell S15.out; go_simp; try rfl)⟩) (Fr0.refl wq) ?_
      try simp only [Act.put, List.setIfInBounds_toArray, List.set_cons_zero, List.set_cons_succ]
      have _hI : True := trivial
      clear _hI
      refine takeH (i := 20) rfl (by kernel_rfl) (by kernel_rfl) (by kernel_rfl) (fun _ _ _ h => h) (.inl ⟨rfl, fun W hW => (by go_simp; try rfl)⟩) (Fr0.refl wq) ?_
      try simp only [Act.put, List.setIfInBounds_toArray, List.set_cons_zero, List.set_cons_succ]
      have _hI : True := trivial
      clear _hI
      refine takeH (i := 21) rfl (by kernel_rfl) (by kernel_rfl) (by kernel_rfl) (fun _ _ _ h => h) (.inl ⟨rfl, fun W hW => (by go_simp; try rfl)⟩) (Fr0.refl wq) ?_
      try simp only [Act.put, List.setIfInBounds_toArray, List.set_cons_zero, List.set_cons_succ]
      have _hI : True := trivial
      clear _hI
      refine takeH (i := 22) rfl (by kernel_rfl) (by kernel_rfl) (by kernel_rfl) (fun _ _ _ h => h) (v := .int .u8 (x12.toNat : Int)) (.inl ⟨rfl, fun W hW => (by have f := hW.cell C12.out; go_simp; try rfl)⟩) (Fr0.refl wq) ?_
      try simp only [Act.put, List.setIfInBounds_toArray, List.set_cons_zero, List.set_cons_succ]
      have _hI : True := trivial
      clear _hI
      refine takeH (i := 23) rfl (by kernel_rfl) (by kernel_rfl) (by kernel_rfl) (fun _ _ _ h => h) (.inl ⟨rfl, fun W hW => (by go_simp; try rfl)⟩) (Fr0.refl wq) ?_
      try simp only [Act.put, List.setIfInBounds_toArray, List.set_cons_zero, List.set_cons_succ]
      have _hI : True := trivial
      clear _hI
      refine takeH (i := 24) rfl (by kernel_rfl) (by kernel_rfl) (by kernel_rfl) (fun _ _ _ h => h) (.inl ⟨rfl, fun W hW => (by go_simp; try rfl)⟩) (Fr0.refl wq) ?_
      try simp only [Act.put, List.setIfInBounds_toArray, List.set_cons_zero, List.set_cons_succ]
      have _hI : True := trivial
      clear _hI
      refine takeH (i := 25) rfl (by kernel_rfl) (by kernel_rfl) (by kernel_rfl) (fun _ _ _ h => h) (v := .int .u8 (y12.toNat : Int)) (.inl ⟨rfl, fun W hW => (by have f := hW.cell S12.out; go_simp; try rfl)⟩) (Fr0.refl wq) ?_
      try simp only [Act.put, List.setIfInBounds_toArray, List.set_cons_zero, List.set_cons_succ]
      have _hI : True := trivial
      clear _hI
      refine takeH (i := 26) rfl (by kernel_rfl) (by kernel_rfl) (by kernel_rfl) (fun _ _ _ h => h) (v := .agg (byts [h0, y14, y15, y12]).toArray) (.inl ⟨rfl, fun W hW => (by go_simp; try rfl)⟩) (Fr0.refl wq) ?_
      try simp only [Act.put, List.setIfInBounds_toArray, List.set_cons_zero, List.set_cons_succ]
      have _hI : True := trivial
      clear _hI
      refine wpAnyH_ready (rs := [27]) (by kernel_rfl) (by simp) (consG rfl rfl (fun K hK => ?_) AllReadyH.nil)
      have _hI : True := trivial
      clear _hI
      refine wp_alloc_blk 99 rfl z4 HRUN4.out ?_
      intro g9 w10 hB hF hl
      have R10 := Lib.hid hB
      have F10 := Lib.hid hF
      have L10 := Lib.hid hl
      clear hB hF hl
      refine hK.out _ _ F10.out ?_
      clear hK
      try simp only [Act.put, List.setIfInBounds_toArray, List.set_cons_zero, List.set_cons_succ]
      have _hI : True := trivial
      clear _hI
      refine wpAnyH_ready (rs := [28]) (by kernel_rfl) (by simp) (consG rfl rfl (fun K hK => ?_) AllReadyH.nil)
      have _hI : True := trivial
      clear _hI
      refine wp_store_blk 99 (.tmp 9) (.tmp 47) rfl g9 (byts [h0, y14, y15, y12]).toArray rfl rfl 99 z4 R10.out HI4.out HZ4'.out hr4 ?_
      intro w11 hB hF
      have R11 := Lib.hid hB
      have F11 := Lib.hid hF
      clear hB hF
      refine hK.out _ _ (Fr0.new F10.out F11.out L10.out) ?_
      clear hK
      try simp only [Act.put, List.setIfInBounds_toArray, List.set_cons_zero, List.set_cons_succ]
      refine wpAnyH_done (by kernel_rfl) ?_ _
      go_wp2_with fail
      have G11 := Lib.hid (Fr0.new F10.out F11.out L10.out)
      have KS := Lib.hid ((HS9.out).fr0 G11.out)
      have KT := Lib.hid (show Blk w11 g5 (byts (fillU T 176 ((j + 1) * 16 + 0))).toArray 74 by rw [Nat.add_zero, Nat.mul_comm]; exact (HT9.out).fr0 G11.out)
      have KZ := Lib.hid ((HZ9.out).fr0 G11.out)
      have KR := Lib.hid ((HR9.out).fr0 G11.out)
      have HF := Lib.hid (Fr0.trans HF9.out G11.out)
      have n85 := (HR9.out).ne HT9.out (by decide)
      have n95 := (R11.out).ne KT.out (by decide)
      have e9 : ((j : Int) + 1).toNat = j + 1 := by omega
      have j0 : (0 : Int) ≤ (j : Int) + 1 := by omega
      have HNN := Lib.hid (And.intro n85 n95)
      clear C12 C13 C14 C15 S12 S13 S14 S15 F10 F11 L10 R10 HS9 HT9 HZ9 HF9 HR9 G11 n85 n95 hx
      go_loopw [48] (fun v48 wx => ∃ k : Nat, k ≤ 16 ∧ v48 = .int .i64 (k : Int) ∧ Blk wx gs (byts sb).toArray 72 ∧ Blk wx g8 cr 31 ∧ Blk wx g9 (byts [h0, y14, y15, y12]).toArray 99 ∧ Blk wx g5 (byts (fillU T 176 ((j + 1) * 16 + k))).toArray 74 ∧ Blk wx g4 z 74 ∧ Fr0 w wx) (fun v48 _ => 16 - (intOf v48).toNat)
      case atStart => exact ⟨0, by omega, rfl, KS.out, KR.out, R11.out, KT.out, KZ.out, HF.out⟩
      case round =>
        obtain ⟨k, hk, rfl, hS, hR, hH, hT, hZ, hF⟩ := hrel
        clear KS KR R11 KT KZ HF
        have KS := Lib.hid hS
        have KR := Lib.hid hR
        have KH := Lib.hid hH
        have KZ := Lib.hid hZ
        have HF := Lib.hid hF
        by_cases hlk : k < 16
        · have k0 : (0 : Int) ≤ (k : Int) := by omega
          have k1 : (k : Int) < 16 := by omega
          have hp : (j + 1) * 16 + k < 176 := by omega
          have c5 := hT.u8 (i := (j + 1) * 16 + k) (by rw [fillU_len TL.out (by omega)]; exact hp)
          have f5 := hT.free ((j + 1) * 16 + k)
          have HN := Lib.hid (hT.fill TL.out hp)
          have hR' := hR
          rw [HCR.out] at hR'
          have c8 := hR'.u8 (i := k) (by rw [HRL.out]; exact hlk)
          have HRk := Lib.hid (RA.out k hlk)
          obtain ⟨t, htt⟩ : ∃ t, t = T.getD ((j + 1) * 16 + k) 0 := ⟨_, rfl⟩
          rw [← htt] at HN
          obtain ⟨x, hxx⟩ : ∃ t, t = rw.getD k 0 := ⟨_, rfl⟩
          rw [← hxx] at c8 HRk
          have FS := Lib.hid (((Fr1.refl g5 wr).set ((j + 1) * 16 + k) (.int .u8 (t.toNat : Int))).drew)
          by_cases h4 : k < 4
          · have c9 := hH.u8 (i := k) h4
            have h := TH.out (j + 1) k (by omega) (by omega) h4
            rw [Nat.add_sub_cancel, ← HRk.out, HDJ.out, show 16 * (j + 1) + k = (j + 1) * 16 + k by omega, ← htt] at h
            obtain ⟨y, hy⟩ : ∃ y, y = [h0, y14, y15, y12].getD k 0 := ⟨_, rfl⟩
            rw [← hy] at c9 h
            have hx := xorU x y
            rw [← h] at hx
            have k4 : (k : Int) < 4 := by omega
            clear hS hR hH hT hZ hF hR' htt hxx hy h hp
            go_wp2_with fail
            go_still_tail 11, (by kernel_rfl)
            go_wp2_with fail
            go_roundw
            case rel => exact ⟨k + 1, by omega, by go_num, (KS.out).fr1 FS.out ns5, (KR.out).fr1 FS.out (HNN.out).1, (KH.out).fr1 FS.out (HNN.out).2, (HN.out).drew, (KZ.out).fr1 FS.out n45, Fr0.new HF.out FS.out LG5.out⟩
            case measure => simp [intOf]; omega
          · have hp4 : (j + 1) * 16 + k - 4 < (j + 1) * 16 + k := by omega
            have c6 := hT.u8 (i := (j + 1) * 16 + (k - 4)) (by rw [fillU_len TL.out (by omega)]; omega)
            rw [fillU_low TL.out (by omega) (by omega)] at c6
            have h := TR.out (j + 1) k (by omega) (by omega) (by omega) hlk
            rw [Nat.add_sub_cancel, ← HRk.out, show 16 * (j + 1) + k = (j + 1) * 16 + k by omega, ← htt, show (j + 1) * 16 + k - 4 = (j + 1) * 16 + (k - 4) by omega] at h
            obtain ⟨y, hy⟩ : ∃ y, y = T.getD ((j + 1) * 16 + (k - 4)) 0 := ⟨_, rfl⟩
            rw [← hy] at c6 h
            have hx := xorU x y
            rw [← h] at hx
            have k4 : (4 : Int) ≤ (k : Int) := by omega
            have k5 : IntKind.i64.wrap ((k : Int) - 4) = (k : Int) - 4 := IntWalk.i64_in _ (by omega)
            have k6 : ((k : Int) - 4).toNat = k - 4 := by omega
            have k7 : (0 : Int) ≤ (k : Int) - 4 := by omega
            have k8 : (k : Int) - 4 < 16 := by omega
            clear hS hR hH hT hZ hF hR' htt hxx hy h hp hp4
            go_wp2_with fail
            go_still_tail 14, (by kernel_rfl)
            go_wp2_with fail
            clear k5 k6 k7 k8 c6 c5 f5 c8
            go_roundw
            case rel => exact ⟨k + 1, by omega, by go_num, (KS.out).fr1 FS.out ns5, (KR.out).fr1 FS.out (HNN.out).1, (KH.out).fr1 FS.out (HNN.out).2, (HN.out).drew, (KZ.out).fr1 FS.out n45, Fr0.new HF.out FS.out LG5.out⟩
            case measure => simp [intOf]; omega
        · obtain rfl : k = 16 := by omega
          have HTM := Lib.hid (fun W => show Calls Try.prog 78 #[.int .u8 (m.toNat : Int), .int .u8 2] W (fun e w' => e = .returned (.int .u8 ((pw (j + 1)).toNat : Int)) ∧ W = w') from by
            rw [HPW.out, ← HMJ.out]; exact times_any m 2 W)
          have HN := Lib.hid hT
          clear hS hR hH hT hZ hF
          go_wp2_with (go_at_call 78; refine (HTM.out _).mono ?_; rintro e w' ⟨rfl, rfl⟩)
          go_roundw
          case rel => exact ⟨j + 1, by omega, congrArg (Value.int .i64) (by push_cast; omega), rfl, KS.out, by rw [show 16 * (j + 1 + 1) = (j + 1) * 16 + 16 by omega]; exact HN.out, KZ.out, HF.out⟩
          case measure => simp [intOf]; omega
    · obtain rfl : j = 10 := by omega
      rw [show 16 * (10 + 1) = 176 from rfl, fillU_all TL.out] at hT
      have hi8 := HI.out
      have hz8 := HZ.out
      obtain ⟨cs, hcs⟩ : ∃ c, c = (byts T).toArray := ⟨_, rfl⟩
      rw [← hcs] at hT hi8 hz8 ha8
      have HCS := Lib.hid hcs
      have KT := Lib.hid hT
      have HI8 := Lib.hid hi8
      have HZ8 := Lib.hid hz8
      clear hS hT hZ hF hi8 hz8 hcs
      go_wp2_with (first
        | (refine list_load_blk rfl 74 _ rfl g5 rfl 74 cs KT.out _ Try.underlying74 rfl HI8.out ?_)
        | (refine list_store_blk rfl 74 _ _ rfl g4 cs rfl rfl 74 z KZ.out HI8.out HZ8.out ha8 ?_; intro w12 hB hF; have C5 := Lib.hid hB; have F12 := Lib.hid (Fr0.new HF.out hF LG4.out); clear hB hF))
      refine bodyPost_ret (v := .agg cs) (results_cell_row rfl _ _ g4 74 cs (0, 0) _ rfl C5.out Try.underlying74 rfl HI8.out) rfl ⟨by rw [HCS.out], F12.out⟩
end Go.Proofs.Ytpmindbipclphaa
