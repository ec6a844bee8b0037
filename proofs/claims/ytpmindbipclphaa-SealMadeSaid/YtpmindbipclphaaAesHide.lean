/- aes.Hide: a block hidden. Conditions stand in the statements. -/
import Derived.Test.YtpmindbipclphaaAesRnd
import Derived.Test.YtpmindbipclphaaAesMove
set_option linter.unusedSimpArgs false
set_option linter.unusedVariables false
namespace Go.Proofs.Ytpmindbipclphaa
open Go.RowKit

section
variable {P : Program} {ops : Array Oper} {w : World} {Q : Act → Prop} {a : Act} {o : Oper} {rest : List Oper}
theorem st_val {v : Value} (hw : Region.wanted o (yielded ops a.tmps) = true) (hr : (execOp a.eval o).run P w = .ok (.value v) w) (h : wpStill P ops w Q rest (a.put o.dst v)) : wpStill P ops w Q (o :: rest) a :=
  wpStill_step fun K hK => by
    rw [if_pos hw]
    unfold Oper.still
    rw [hr]
    exact ⟨rfl, hK _ h⟩
theorem st_load (hw : Region.wanted o (yielded ops a.tmps) = true) (ty : TypeId) (x : Operand) (ho : o.op = .load ty x) (b off : Nat) (hx : a.eval x = .pointer (some ⟨b, off, none⟩)) (cs : List Value) (d : TypeDesc) (hc : w.rangeAt b off cs)
    (hu : P.underlying ty = some d) (hd : d.isRow = true) (hi : (P.info? ty).map (·.size) = some cs.length) (h : wpStill P ops w Q rest (a.put o.dst (.agg cs.toArray))) : wpStill P ops w Q (o :: rest) a :=
  st_val hw (by
    have hl := run_loadAt_mid (P := P) w b off ty cs d hc hu hd hi
    unfold execOp
    simp only [ho, hx, Sem.run_bind, hl, Result.andThen_ok]
    rfl) h
end
theorem Blk.whole {w : World} {g : Nat} {t : TypeId} {l : List UInt8} (h : Blk w g (byts l).toArray t) : w.rangeAt g 0 (byts l) := fun j v hv => h.cell (0 + j) (by rw [Nat.zero_add, List.getElem?_toArray]; exact hv)
theorem z256_run (W : World) : (Instr.alloc 72 true (.tuple #[])).run Try.prog W = .ok (.pointer (some ⟨W.heap.size, 0, none⟩)) (W.alloc (.cells (byts (List.replicate 256 0)).toArray 72)) := by kernel_rfl
theorem a256_info {d : List UInt8} (h : d.length = 256) : (Try.prog.info? 72).map (·.size) = some (byts d).toArray.size := by rw [byts_size, h]; kernel_rfl
theorem a176_info {d : List UInt8} (h : d.length = 176) : (Try.prog.info? 74).map (·.size) = some (byts d).toArray.size := by rw [byts_size, h]; kernel_rfl
set_option maxHeartbeats 8000000 in
set_option maxRecDepth 100000 in
theorem ahide_any {key b : List UInt8} {w : World} (hk : key.length = 16) (hb : b.length = 16) : Calls Try.prog 49 #[.agg (byts key).toArray, .agg (byts b).toArray] w fun e w' => e = .returned (.agg (byts (hidL key b)).toArray) ∧ Fr0 w w' := by
  have HV := Lib.hid (show hidL key b = hdS (ksL key) b 10 from rfl)
  have HKL := Lib.hid (ksL_len key)
  have HD0 := Lib.hid (show hdS (ksL key) b 0 = adL b (rkL (ksL key) 0) from rfl)
  have HDS := Lib.hid (fun i => show hdS (ksL key) b (i + 1) = adL (if i + 1 < 10 then mxL (mvL (hdS (ksL key) b i)) else mvL (hdS (ksL key) b i)) (rkL (ksL key) (i + 1)) from rfl)
  have HDL := Lib.hid (hdS_len (ksL key) b)
  have HSW := Lib.hid (fun W => swaps_any W)
  have HRN := Lib.hid (fun W g (h : Blk W g (byts sbox).toArray 72) => arounds_any hk h)
  have HAD := Lib.hid (fun (x y : List UInt8) (hx : x.length = 16) (hy : y.length = 16) W => aadd_any hx hy W)
  have HMV := Lib.hid (fun (x : List UInt8) (hx : x.length = 16) W g (h : Blk W g (byts sbox).toArray 72) => amove_any hx h)
  have HMX := Lib.hid (fun (x : List UInt8) (hx : x.length = 16) W => show Calls Try.prog 66 #[.agg (byts x).toArray, .agg #[.int .u8 2, .int .u8 3, .int .u8 1, .int .u8 1]] W (fun e w' => e = .returned (.agg (byts (mxL x)).toArray) ∧ Fr0 W w') from by
    have := amix_any (b := x) (c := [2, 3, 1, 1]) (w := W) hx rfl
    rwa [mxC_mxL] at this)
  have HMVL := Lib.hid (fun x => show (mvL x).length = 16 from map16_len _)
  have HMXL := Lib.hid (fun x => show (mxL x).length = 16 from map16_len _)
  have HADL := Lib.hid (fun x y => show (adL x y).length = 16 from map16_len _)
  have HIA := Lib.hid (fun (d : List UInt8) (h : d.length = 16) => a16_info h)
  have HAA := Lib.hid (fun (d : List UInt8) => byts_all d)
  have HZ16 := Lib.hid (fun (d : List UInt8) (h : d.length = 16) => z16_size h)
  have HSZ := Lib.hid (fun (d e : List UInt8) (h : d.length = 16) (h2 : e.length = 16) => show (byts d).toArray.size = (byts e).toArray.size by rw [byts_size, byts_size, h, h2])
  have HI256 := Lib.hid (a256_info sbox_len)
  have HI256b := Lib.hid (a256_info sback_len)
  have HZ256 := Lib.hid (show (byts (List.replicate 256 0)).toArray.size = (byts sbox).toArray.size by rw [byts_size, byts_size, sbox_len, List.length_replicate])
  have HZ256b := Lib.hid (show (byts (List.replicate 256 0)).toArray.size = (byts sback).toArray.size by rw [byts_size, byts_size, sback_len, List.length_replicate])
  have hs1 := byts_all sbox
  have hs2 := byts_all sback
  have HIR := Lib.hid (a176_info HKL.out)
  have HZR := Lib.hid (show z176A.size = (byts (ksL key)).toArray.size by rw [byts_size, HKL.out]; rfl)
  have hsr := byts_all (ksL key)
  have K0 := Lib.hid (Blk.new w (byts key).toArray 31)
  have B0 := Lib.hid (show Blk ((w.alloc (.cells (byts key).toArray 31)).alloc (.cells (byts b).toArray 31)) (w.heap.size + 1) (byts b).toArray 31 by have := Blk.new (w.alloc (.cells (byts key).toArray 31)) (byts b).toArray 31; simpa using this)
  have HRUN16 := Lib.hid (fun W => z16_run W)
  have HRUN256 := Lib.hid (fun W => z256_run W)
  have HRUNR := Lib.hid (fun W => z176_run W)
  have HKI := Lib.hid (a16_info hk)
  have HBI := Lib.hid (a16_info hb)
  have HBL := Lib.hid hb
  have HRO := Lib.hid (fun W g i (h : Blk W g (byts (ksL key)).toArray 74) (hi : i < 11) => show W.rangeAt g (i * 16) (byts (rkL (ksL key) i)) by
    have hr := h.range (16 * i) 16
    rw [Nat.mul_comm]; exact hr)
  have HRL := Lib.hid (fun i (hi : i < 11) => rkL_len (ks := ksL key) HKL.out hi)
  obtain ⟨ks, hks⟩ : ∃ k, k = ksL key := ⟨_, rfl⟩
  rw [← hks] at HV HKL HD0 HDS HDL HRN HIR HZR hsr HRO HRL
  obtain ⟨out, hout⟩ : ∃ k, k = hidL key b := ⟨_, rfl⟩
  rw [← hout] at HV ⊢
  obtain ⟨D, hD⟩ : ∃ k, k = hdS ks b := ⟨_, rfl⟩
  rw [← hD] at HV HD0 HDS HDL
  obtain ⟨sb, hsb⟩ : ∃ k, k = sbox := ⟨_, rfl⟩
  obtain ⟨sk, hsk⟩ : ∃ k, k = sback := ⟨_, rfl⟩
  rw [← hsb, ← hsk] at HSW
  rw [← hsb] at HRN HMV HI256 HZ256 hs1
  rw [← hsk] at HI256b HZ256b hs2
  obtain ⟨ck, hck⟩ : ∃ c, c = (byts key).toArray := ⟨_, rfl⟩
  rw [← hck] at HRN K0 B0 HKI ⊢
  obtain ⟨z16, hz16⟩ : ∃ z, z = z16A := ⟨_, rfl⟩
  obtain ⟨z256, hz256⟩ : ∃ z, z = (byts (List.replicate 256 0)).toArray := ⟨_, rfl⟩
  obtain ⟨zr, hzr⟩ : ∃ z, z = z176A := ⟨_, rfl⟩
  rw [← hz16] at HRUN16 HZ16
  rw [← hz256] at HRUN256 HZ256 HZ256b
  rw [← hzr] at HRUNR HZR
  clear hks hout hD hsb hsk hck hz16 hz256 hzr hk hb
  go_enter Try.func49, Try.ntmps49
  go_upto_region 3 with (first
    | (have _q := X7; refine list_store_blk rfl 74 _ _ rfl g7 (byts ks).toArray rfl rfl 74 zr X7.out HIR.out HZR.out hsr ?_; intro w9 hB hF; have R9 := Lib.hid hB; have F9 := Lib.hid hF; clear hB hF)
    | (have _q := R6; refine list_alloc_blk rfl 74 rfl zr HRUNR.out ?_; intro g7 w8 hB hF hl; have X7 := Lib.hid hB; have F8 := Lib.hid hF; have L7 := Lib.hid hl; clear hB hF hl)
    | (go_at_call 63; refine (HRN.out _ _ (S5.out)).mono ?_; rintro e w7 ⟨rfl, hf⟩; have F7 := Lib.hid hf; have R6 := Lib.hid hf.size; clear hf)
    | (have _q := S5; refine list_load_blk rfl 31 _ rfl w.heap.size rfl 31 ck K5.out _ Try.underlying31 rfl HKI.out ?_)
    | (have _q := S4; refine list_store_blk rfl 72 _ _ rfl g6 (byts sk).toArray rfl rfl 72 z256 X6.out HI256b.out HZ256b.out hs2 ?_; intro w6 hB hF; have F6 := Lib.hid hF; have S5 := Lib.hid ((S4.out).fr1 hF (by have := (Y5.out).lt; have := L6.out; omega)); have K5 := Lib.hid ((K4.out).fr1 hF NK6.out); clear hB hF)
    | (have _q := X6; refine list_store_blk rfl 72 _ _ rfl g5 (byts sb).toArray rfl rfl 72 z256 X5.out HI256.out HZ256.out hs1 ?_; intro w5 hB hF; have S4 := Lib.hid hB; have F5 := Lib.hid hF; have X6 := Lib.hid ((X6.out).fr1 hF (by have := (Y5.out).lt; have := L6.out; omega)); have K4 := Lib.hid ((K3.out).fr1 hF NK5.out); clear hB hF)
    | (have _q := Y5; refine list_alloc_blk rfl 72 rfl z256 HRUN256.out ?_; intro g6 w4 hB hF hl; have X6 := Lib.hid hB; have F4 := Lib.hid hF; have L6 := Lib.hid hl; have X5 := Lib.hid ((Y5.out).fr0 hF); have K3 := Lib.hid ((K2.out).fr0 hF); have NK6 := Lib.hid (show w.heap.size ≠ g6 by have := (K2.out).lt; omega); clear hB hF hl)
    | (have _q := F2; refine list_alloc_blk rfl 72 rfl z256 HRUN256.out ?_; intro g5 w3 hB hF hl; have Y5 := Lib.hid hB; have F3 := Lib.hid hF; have L5 := Lib.hid hl; have K2 := Lib.hid ((K1.out).fr0 hF); have NK5 := Lib.hid (show w.heap.size ≠ g5 by have := (K1.out).lt; omega); clear hB hF hl)
    | (go_at_call 62; refine (HSW.out _).mono ?_; rintro e w2 ⟨rfl, hf⟩; have F2 := Lib.hid hf; have K1 := Lib.hid ((KA.out).fr0 hf); clear hf)
    | (refine list_alloc_blk rfl 31 rfl z16 HRUN16.out ?_; intro g4 w1 hB hF hl; have Z4 := Lib.hid hB; have F1 := Lib.hid hF; have L4 := Lib.hid hl; have KA := Lib.hid (((K0.out).alloc _).fr0 hF); have B1 := Lib.hid ((B0.out).fr0 hF); clear hB hF hl))
  have q1 := L4.out
  have q2 := (F1.out).size
  have q3 := (Z4.out).lt
  have q4 := (F2.out).size
  have q5 := L5.out
  have q6 := (F3.out).size
  have q7 := (Y5.out).lt
  have q8 := L6.out
  have q9 := (F4.out).size
  have q10 := (F5.out).size
  have q11 := (F6.out).size
  have q12 := (F7.out).size
  have q13 := L7.out
  have q14 := (X5.out).lt
  simp only [World.size_alloc] at q1 q2
  obtain ⟨gb, hgb⟩ : ∃ g, g = w.heap.size + 1 := ⟨_, rfl⟩
  rw [← hgb] at B1
  rw [← hgb]
  have nb5 : gb ≠ g5 := by omega
  have nb6 : gb ≠ g6 := by omega
  have nb7 : gb ≠ g7 := by omega
  have n57 : g5 ≠ g7 := by omega
  have n45 : g4 ≠ g5 := by omega
  have n46 : g4 ≠ g6 := by omega
  have n47 : g4 ≠ g7 := by omega
  have n4b : g4 ≠ gb := by omega
  have n5b : g5 ≠ gb := by omega
  have n7b : g7 ≠ gb := by omega
  have LB := Lib.hid (show w.heap.size ≤ gb by omega)
  have LG4 := Lib.hid (show w.heap.size ≤ g4 by omega)
  have B9 := Lib.hid (((((((((B1.out).fr0 F2.out).fr0 F3.out).fr0 F4.out).fr1 F5.out nb5).fr1 F6.out nb6).fr0 F7.out).fr0 F8.out).fr1 F9.out nb7)
  have Z9 := Lib.hid (((((((((Z4.out).fr0 F2.out).fr0 F3.out).fr0 F4.out).fr1 F5.out n45).fr1 F6.out n46).fr0 F7.out).fr0 F8.out).fr1 F9.out n47)
  have S9 := Lib.hid ((((S5.out).fr0 F7.out).fr0 F8.out).fr1 F9.out n57)
  have HF9 := Lib.hid (show Fr0 w w9 from Fr0.new (Fr0.trans (Fr0.trans (Fr0.new (Fr0.new (Fr0.trans (Fr0.trans (Fr0.trans (Fr0.trans (((Fr0.refl w).alloc _).alloc _) F1.out) F2.out) F3.out) F4.out) F5.out (by omega)) F6.out (by omega)) F7.out) F8.out) F9.out (by omega))
  clear q1 q2 q3 q4 q5 q6 q7 q8 q9 q10 q11 q12 q13 q14 hgb nb5 nb6 nb7 n57 n45 n46 n47 L4 F1 Z4 F2 L5 F3 Y5 L6 F4 F5 F6 F7 L7 X5 F8 F9 B1 S5 K0 B0 KA K1 K2 K3 K4 K5 NK5 NK6 X6 S4 R6 X7 HSW HRN HRUN16 HRUN256 HRUNR HI256 HI256b HZ256 HZ256b hs1 hs2 HIR HZR hsr HKI
  have HAB := Lib.hid ((HAD.out) b (rkL ks 0) HBL.out (HRL.out 0 (by omega)))
  have HR0 := Lib.hid (HRO.out w9 g7 0 R9.out (by omega))
  have HIM := Lib.hid (fun i (hi : i < 11) => show (Try.prog.info? 31).map (·.size) = some (byts (rkL ks i)).length by rw [byts_len, HRL.out i hi]; kernel_rfl)
  have HI0 := Lib.hid (HIM.out 0 (by omega))
  rw [← HD0.out] at HAB
  have D0L := HDL.out 0
  have hsd := byts_all (D 0)
  have HID0 := Lib.hid (HIA.out (D 0) D0L)
  have HZD0 := Lib.hid (HSZ.out b (D 0) HBL.out D0L)
  obtain ⟨r0, hr0⟩ : ∃ r, r = rkL ks 0 := ⟨_, rfl⟩
  rw [← hr0] at HAB HR0 HI0
  clear hr0 D0L
  go_upto_region 5 with (first
    | (refine list_load_blk rfl 31 _ rfl gb rfl 31 (byts b).toArray B9.out _ Try.underlying31 rfl HBI.out ?_)
    | (refine wpList_load_mid rfl 31 _ rfl g7 0 rfl (byts r0) _ HR0.out Try.underlying31 rfl HI0.out ?_)
    | (go_at_call 64; refine (HAB.out _).mono ?_; rintro e w10 ⟨rfl, hf⟩; have F10 := Lib.hid hf; have BB := Lib.hid ((B9.out).fr0 hf); clear hf)
    | (have _q := F10; refine list_store_blk rfl 31 _ _ rfl gb (byts (D 0)).toArray rfl rfl 31 (byts b).toArray BB.out HID0.out HZD0.out hsd ?_; intro w11 hB hF; have C11 := Lib.hid hB; have F11 := Lib.hid hF; clear hB hF))
  have C := Lib.hid (C11.out)
  have S := Lib.hid (((S9.out).fr0 F10.out).fr1 F11.out n5b)
  have R := Lib.hid (((R9.out).fr0 F10.out).fr1 F11.out n7b)
  have Z := Lib.hid (((Z9.out).fr0 F10.out).fr1 F11.out n4b)
  have F := Lib.hid (Fr0.new (Fr0.trans HF9.out F10.out) F11.out LB.out)
  clear C11 S9 R9 Z9 HF9 F10 F11 BB B9 HAB HR0 HI0 HID0 HZD0 hsd
  go_loopw [8] (fun v8 wr => ∃ j : Nat, j ≤ 10 ∧ v8 = .int .i64 ((j : Int) + 1) ∧ Blk wr gb (byts (D j)).toArray 31 ∧ Blk wr g5 (byts sb).toArray 72 ∧ Blk wr g7 (byts ks).toArray 74 ∧ Blk wr g4 z16 31 ∧ Fr0 w wr) (fun v8 _ => 11 - (intOf v8).toNat)
  case atStart => exact ⟨0, by omega, rfl, C.out, S.out, R.out, Z.out, F.out⟩
  case round =>
    obtain ⟨j, hj, rfl, hC, hS, hR, hZ, hF⟩ := hrel
    clear C S R Z F
    have C := Lib.hid hC
    have S := Lib.hid hS
    have R := Lib.hid hR
    have Z := Lib.hid hZ
    have F := Lib.hid hF
    by_cases hlt : j < 10
    · have j1 : (j : Int) + 1 < 11 := by omega
      have j0 : (0 : Int) ≤ (j : Int) + 1 := by omega
      have e9 : ((j : Int) + 1).toNat = j + 1 := by omega
      have DL := HDL.out j
      have MVL := HMVL.out (D j)
      have HMVJ := Lib.hid (fun W h => (HMV.out) (D j) DL W g5 h)
      have HID := Lib.hid (HIA.out (D j) DL)
      have HIV := Lib.hid (HIA.out (mvL (D j)) MVL)
      have HZV := Lib.hid (HSZ.out (D j) (mvL (D j)) DL MVL)
      have hsv := byts_all (mvL (D j))
      have HDJ := Lib.hid (HDS.out j)
      have HRR := Lib.hid (fun W h => HRO.out W g7 (j + 1) h (by omega))
      have HIR := Lib.hid (HIM.out (j + 1) (by omega))
      have HRLJ := Lib.hid (HRL.out (j + 1) (by omega))
      have HIE := Lib.hid (HIA.out (D (j + 1)) (HDL.out (j + 1)))
      have hse := byts_all (D (j + 1))
      by_cases h10 : j + 1 < 10
      · rw [if_pos h10] at HDJ
        have MXL := HMXL.out (mvL (D j))
        have HMXJ := Lib.hid (fun W => (HMX.out) (mvL (D j)) MVL W)
        have HIX := Lib.hid (HIA.out (mxL (mvL (D j))) MXL)
        have HZX := Lib.hid (HSZ.out (mvL (D j)) (mxL (mvL (D j))) MVL MXL)
        have hsx := byts_all (mxL (mvL (D j)))
        have HADJ := Lib.hid (fun W => (HAD.out) (mxL (mvL (D j))) (rkL ks (j + 1)) MXL HRLJ.out W)
        rw [← HDJ.out] at HADJ
        have HZE := Lib.hid (HSZ.out (mxL (mvL (D j))) (D (j + 1)) MXL (HDL.out (j + 1)))
        have j2 : (j : Int) + 1 < 10 := by omega
        obtain ⟨d0, hd0⟩ : ∃ d, d = D j := ⟨_, rfl⟩
        rw [← hd0] at HMVJ HID HIV HZV hsv HMXJ HIX HZX hsx HADJ HZE C
        obtain ⟨d1, hd1⟩ : ∃ d, d = mvL d0 := ⟨_, rfl⟩
        rw [← hd1] at HMVJ HIV HZV hsv HMXJ HIX HZX hsx HADJ HZE
        obtain ⟨d2, hd2⟩ : ∃ d, d = mxL d1 := ⟨_, rfl⟩
        rw [← hd2] at HMXJ HIX HZX hsx HADJ HZE
        obtain ⟨d3, hd3⟩ : ∃ d, d = D (j + 1) := ⟨_, rfl⟩
        rw [← hd3] at HADJ HIE hse HZE
        obtain ⟨rj, hrj⟩ : ∃ d, d = rkL ks (j + 1) := ⟨_, rfl⟩
        rw [← hrj] at HRR HIR HADJ
        have HD3 := Lib.hid hd3
        clear hC hS hR hZ hF DL MVL MXL hd0 hd1 hd2 hd3 hrj HDJ h10
        go_upto_region 10 with (first
          | (have _q := C5; refine list_store_blk rfl 31 _ _ rfl gb (byts d2).toArray rfl rfl 31 (byts d1).toArray C5.out HIX.out HZX.out hsx ?_; intro w6 hB hF; have C6 := Lib.hid hB; have F6 := Lib.hid hF; clear hB hF)
          | (go_at_call 66; refine (HMXJ.out _).mono ?_; rintro e w5 ⟨rfl, hf⟩; have F5 := Lib.hid hf; have C5 := Lib.hid ((C4.out).fr0 hf); clear hf)
          | (have _q := C4; refine list_load_blk rfl 31 _ rfl gb rfl 31 (byts d1).toArray C4.out _ Try.underlying31 rfl HIV.out ?_)
          | (have _q := C3; refine list_store_blk rfl 31 _ _ rfl gb (byts d1).toArray rfl rfl 31 (byts d0).toArray C3.out HIV.out HZV.out hsv ?_; intro w4 hB hF; have C4 := Lib.hid hB; have F4 := Lib.hid hF; clear hB hF)
          | (go_at_call 65; refine (HMVJ.out _ S.out).mono ?_; rintro e w3 ⟨rfl, hf⟩; have F3 := Lib.hid hf; have C3 := Lib.hid ((C.out).fr0 hf); clear hf)
          | (refine list_load_blk rfl 31 _ rfl gb rfl 31 (byts d0).toArray C.out _ Try.underlying31 rfl HID.out ?_))
        have GS := Lib.hid (((((S.out).fr0 F3.out).fr1 F4.out n5b).fr0 F5.out).fr1 F6.out n5b)
        have GR := Lib.hid (((((R.out).fr0 F3.out).fr1 F4.out n7b).fr0 F5.out).fr1 F6.out n7b)
        have GZ := Lib.hid (((((Z.out).fr0 F3.out).fr1 F4.out n4b).fr0 F5.out).fr1 F6.out n4b)
        have GF := Lib.hid (Fr0.new (Fr0.trans (Fr0.new (Fr0.trans F.out F3.out) F4.out LB.out) F5.out) F6.out LB.out)
        clear S R Z F F3 F4 F5 F6 C3 C4 C5 HMVJ HID HIV HZV hsv HMXJ HZX hsx
        have QS := Lib.hid ((GS.out).drew)
        have QR := Lib.hid ((GR.out).drew)
        have QZ := Lib.hid ((GZ.out).drew)
        have QF := Lib.hid ((GF.out).drew)
        have QC := Lib.hid ((C6.out).drew)
        clear GS GR GZ GF C6
        refine wp_region_still_tail 4 (by kernel_rfl) (by kernel_rfl) ?_
        simp only [List.take_succ_cons, List.take_zero, List.drop_succ_cons, List.drop_zero]
        refine st_load rfl 31 _ rfl gb 0 rfl (byts d2) _ (Blk.whole QC.out) Try.underlying31 rfl (by rw [byts_len]; have h := HIX.out; rw [byts_size] at h; rw [Nat.mul_one]; exact h) ?_
        still_step
        still_step
        refine st_load rfl 31 _ rfl g7 ((j + 1) * 16) rfl (byts rj) _ (HRR.out _ QR.out) Try.underlying31 rfl HIR.out ?_
        try refine wpStill_nil ?_
        go_wp2_with (first
          | (have _q := F7; refine list_store_blk rfl 31 _ _ rfl gb (byts d3).toArray rfl rfl 31 (byts d2).toArray ((QC.out).fr0 F7.out) HIE.out HZE.out hse ?_; intro w8 hB hF; have C8 := Lib.hid hB; have F8 := Lib.hid hF; clear hB hF)
          | (go_at_call 64; refine (HADJ.out _).mono ?_; rintro e w7 ⟨rfl, hf⟩; have F7 := Lib.hid hf; clear hf))
        go_roundw
        case rel => exact ⟨j + 1, by omega, congrArg (Value.int .i64) (by push_cast; omega), by rw [← HD3.out]; exact C8.out, ((QS.out).fr0 F7.out).fr1 F8.out n5b, ((QR.out).fr0 F7.out).fr1 F8.out n7b, ((QZ.out).fr0 F7.out).fr1 F8.out n4b, Fr0.new (Fr0.trans QF.out F7.out) F8.out LB.out⟩
        case measure => simp [intOf]; omega
      · rw [if_neg h10] at HDJ
        have HADJ := Lib.hid (fun W => (HAD.out) (mvL (D j)) (rkL ks (j + 1)) MVL HRLJ.out W)
        rw [← HDJ.out] at HADJ
        have HZE := Lib.hid (HSZ.out (mvL (D j)) (D (j + 1)) MVL (HDL.out (j + 1)))
        have j2 : (10 : Int) ≤ (j : Int) + 1 := by omega
        obtain ⟨d0, hd0⟩ : ∃ d, d = D j := ⟨_, rfl⟩
        rw [← hd0] at HMVJ HID HIV HZV hsv HADJ HZE C
        obtain ⟨d1, hd1⟩ : ∃ d, d = mvL d0 := ⟨_, rfl⟩
        rw [← hd1] at HMVJ HIV HZV hsv HADJ HZE
        obtain ⟨d3, hd3⟩ : ∃ d, d = D (j + 1) := ⟨_, rfl⟩
        rw [← hd3] at HADJ HIE hse HZE
        obtain ⟨rj, hrj⟩ : ∃ d, d = rkL ks (j + 1) := ⟨_, rfl⟩
        rw [← hrj] at HRR HIR HADJ
        have HD3 := Lib.hid hd3
        clear hC hS hR hZ hF DL MVL hd0 hd1 hd3 hrj HDJ h10
        go_upto_region 10 with (first
          | (have _q := C3; refine list_store_blk rfl 31 _ _ rfl gb (byts d1).toArray rfl rfl 31 (byts d0).toArray C3.out HIV.out HZV.out hsv ?_; intro w4 hB hF; have C4 := Lib.hid hB; have F4 := Lib.hid hF; clear hB hF)
          | (go_at_call 65; refine (HMVJ.out _ S.out).mono ?_; rintro e w3 ⟨rfl, hf⟩; have F3 := Lib.hid hf; have C3 := Lib.hid ((C.out).fr0 hf); clear hf)
          | (refine list_load_blk rfl 31 _ rfl gb rfl 31 (byts d0).toArray C.out _ Try.underlying31 rfl HID.out ?_))
        have GS := Lib.hid (((S.out).fr0 F3.out).fr1 F4.out n5b)
        have GR := Lib.hid (((R.out).fr0 F3.out).fr1 F4.out n7b)
        have GZ := Lib.hid (((Z.out).fr0 F3.out).fr1 F4.out n4b)
        have GF := Lib.hid (Fr0.new (Fr0.trans F.out F3.out) F4.out LB.out)
        clear S R Z F F3 F4 C3 HMVJ HID HZV hsv
        have QS := Lib.hid ((GS.out).drew)
        have QR := Lib.hid ((GR.out).drew)
        have QZ := Lib.hid ((GZ.out).drew)
        have QF := Lib.hid ((GF.out).drew)
        have QC := Lib.hid ((C4.out).drew)
        clear GS GR GZ GF C4
        refine wp_region_still_tail 4 (by kernel_rfl) (by kernel_rfl) ?_
        simp only [List.take_succ_cons, List.take_zero, List.drop_succ_cons, List.drop_zero]
        refine st_load rfl 31 _ rfl gb 0 rfl (byts d1) _ (Blk.whole QC.out) Try.underlying31 rfl (by rw [byts_len]; have h := HIV.out; rw [byts_size] at h; rw [Nat.mul_one]; exact h) ?_
        still_step
        still_step
        refine st_load rfl 31 _ rfl g7 ((j + 1) * 16) rfl (byts rj) _ (HRR.out _ QR.out) Try.underlying31 rfl HIR.out ?_
        try refine wpStill_nil ?_
        go_wp2_with (first
          | (have _q := F7; refine list_store_blk rfl 31 _ _ rfl gb (byts d3).toArray rfl rfl 31 (byts d1).toArray ((QC.out).fr0 F7.out) HIE.out HZE.out hse ?_; intro w8 hB hF; have C8 := Lib.hid hB; have F8 := Lib.hid hF; clear hB hF)
          | (go_at_call 64; refine (HADJ.out _).mono ?_; rintro e w7 ⟨rfl, hf⟩; have F7 := Lib.hid hf; clear hf))
        go_roundw
        case rel => exact ⟨j + 1, by omega, congrArg (Value.int .i64) (by push_cast; omega), by rw [← HD3.out]; exact C8.out, ((QS.out).fr0 F7.out).fr1 F8.out n5b, ((QR.out).fr0 F7.out).fr1 F8.out n7b, ((QZ.out).fr0 F7.out).fr1 F8.out n4b, Fr0.new (Fr0.trans QF.out F7.out) F8.out LB.out⟩
        case measure => simp [intOf]; omega
    · obtain rfl : j = 10 := by omega
      have DL := HDL.out 10
      have HI8 := Lib.hid (HIA.out (D 10) DL)
      have HZ8 := Lib.hid (HZ16.out (D 10) DL)
      have ha8 := byts_all (D 10)
      rw [← HV.out] at HI8 HZ8 ha8 C
      clear hC hS hR hZ hF DL
      go_wp2_with (first
        | (refine list_load_blk rfl 31 _ rfl gb rfl 31 (byts out).toArray C.out _ Try.underlying31 rfl HI8.out ?_)
        | (refine list_store_blk rfl 31 _ _ rfl g4 (byts out).toArray rfl rfl 31 z16 Z.out HI8.out HZ8.out ha8 ?_; intro w12 hB hF; have C5 := Lib.hid hB; have F12 := Lib.hid (Fr0.new F.out hF LG4.out); clear hB hF))
      refine bodyPost_ret (v := .agg (byts out).toArray) (results_cell_row rfl _ _ g4 31 (byts out).toArray (0, 0) _ rfl C5.out Try.underlying31 rfl HI8.out) rfl ⟨rfl, F12.out⟩
end Go.Proofs.Ytpmindbipclphaa
