/- ShaPieces: however bytes are cut, their digest is the same: by Sum, by a hash, by the blocks alone: the law returns true for any bytes and numbers. No condition. -/
import Derived.Test.YtinajkhnfebgcaaShaEq
import Derived.Test.YtinajkhnfebgcaaShaKnown
import Derived.Test.YtinajkhnfebgcaaShaLen
import Derived.Test.YtinajkhnfebgcaaShaBlock
import Derived.Test.YtinajkhnfebgcaaShaAt
import Derived.Test.YtinajkhnfebgcaaSlPut
import Derived.Test.YtinajkhnfebgcaaCopy
import Derived.Test.YtinajkhnfebgcaaStepsB
import Derived.Test.YtinajkhnfebgcaaWLits
import Derived.Handy
set_option linter.unusedSimpArgs false
namespace Go.Proofs.Ytinajkhnfebgcaa
open Go.RowKit

theorem bin_run2 {P : Program} {o : Oper} {a : Act} {w : World} {op : BinOp} {ty t2 : TypeId} {x y : Operand} {vx vy v : Value} (ho : o.op = .binOp op ty x y t2) (hx : a.eval x = vx) (hy : a.eval y = vy)
    (hg : (eqGuard op ty x y vx vy).run P w = .ok () w) (hb : (binOp op ty vx vy).run P w = .ok v w) : (execOp a.eval o).run P w = .ok (.value v) w := by
  unfold execOp
  simp only [ho, hx, hy, Sem.run_bind, hg, hb, Result.andThen_ok]
  rfl
theorem yields_load_w {P : Program} {ops : Array Oper} {o : Oper} {a : Act} {S : World → Prop} (hw : Region.wanted o (yielded ops a.tmps) = true) (ty : TypeId) (x : Operand) (ho : o.op = .load ty x) (g : Nat) (hx : a.eval x = .pointer (some ⟨g, 0, none⟩)) (t : TypeId) (cs : Array Value) (hS : ∀ w, S w → Blk w g cs t) (d : TypeDesc)
    (hu : P.underlying ty = some d) (hd : d.isRow = true) (hi : (P.info? ty).map (·.size) = some cs.size) : YieldsIf P ops S o (.agg cs) a := by
  have h := yieldsIf_load_mid (P := P) (ops := ops) (S := S) (a := a) (op := o) hw ty x ho g 0 hx cs.toList d (fun w hw j v hv => (hS w hw).cell _ (by simpa using hv)) hu hd (by simpa using hi)
  simpa using h
theorem wi64 (n : Int) (h : 0 ≤ n) (h2 : n ≤ 1000) : IntKind.i64.wrap n = n := by simp [IntKind.wrap, IntKind.bits, IntKind.signed]; omega
theorem wu8 (n : Int) : IntKind.u8.wrap n = n % 256 := by simp [IntKind.wrap, IntKind.bits, IntKind.signed]
theorem byts_getD (d : List UInt8) (i : Nat) (h : i < d.length) : (byts d).toArray[i]? = some (.int .u8 ((d.getD i 0).toNat : Int)) := by
  rw [List.getElem?_toArray, byts, List.getElem?_map, List.getElem?_eq_getElem h]
  simp [List.getD, h]
theorem z64_run (W : World) : (Instr.alloc 33 true (.tuple #[])).run Try.prog W = .ok (.pointer (some ⟨W.heap.size, 0, none⟩)) (W.alloc (.cells (byts (List.replicate 64 0)).toArray 33)) := by kernel_rfl
theorem lenB_bytes (n : Nat) (h : n ≤ 2000) : lenB n = [0, 0, 0, 0, UInt8.ofNat (n * 8 / 16777216), UInt8.ofNat (n * 8 / 65536), UInt8.ofNat (n * 8 / 256), UInt8.ofNat (n * 8)] := by
  have e : n * 8 % 18446744073709551616 = n * 8 := Nat.mod_eq_of_lt (by omega)
  unfold lenB
  rw [e]
  have d0 : n * 8 / 2 ^ 56 = 0 := Nat.div_eq_of_lt (by omega)
  have d1 : n * 8 / 2 ^ 48 = 0 := Nat.div_eq_of_lt (by omega)
  have d2 : n * 8 / 2 ^ 40 = 0 := Nat.div_eq_of_lt (by omega)
  have d3 : n * 8 / 2 ^ 32 = 0 := Nat.div_eq_of_lt (by omega)
  simp only [List.map_cons, List.map_nil, d0, d1, d2, d3]
  simp
set_option maxHeartbeats 3000000 in
set_option maxRecDepth 100000 in
theorem pieces_ok {v : Value} {b : List UInt8} {w : World} (h : RdB w v b) {cu mo : Nat} (hl : b.length ≤ 2000) (h1 : cu ≤ mo) (h2 : mo ≤ b.length) : Calls Try.prog 8 #[v, .int .i64 cu, .int .i64 mo] w fun e w' => e = .returned (.bool true) ∧ Fr0 w w' := by
  obtain ⟨Av, cv, rfl, hcv1, hcv2, -⟩ := h.form
  unfold maxLen at hcv2
  have HKN := Lib.hid (fun W => known02_any W)
  have HNW := Lib.hid (fun W => hnew_any W)
  have hsl1 := fun W => part_h W Av b.length cv cu (by omega)
  obtain ⟨A2, n2, c2, hsl2, hr2⟩ := part_lh h h1 h2
  obtain ⟨A3, hsl3, hr3, -⟩ := slice_from (P := Try.prog) (T := 27) Try.underlying27 u8_size h h2 (mo : Int) rfl
  have hr1 := RdB.take (k := cu) h (by omega)
  have HP1 := Lib.hid hsl1
  have HP2 := Lib.hid hsl2
  have HP3 := Lib.hid hsl3
  have e12 : b.take cu ++ (b.take mo).drop cu = b.take mo := by
    have : b.take cu = (b.take mo).take cu := by rw [List.take_take, Nat.min_eq_left h1]
    rw [this, List.take_append_drop]
  have e23 : b.take mo ++ b.drop mo = b := List.take_append_drop mo b
  have HWR := Lib.hid (fun (W : World) (base p : Nat) (v bv : Value) (all d : List UInt8) (hr : RdB w bv d) (hv : HashV base W p v all) (hf : Fr0 w W) (hp : w.heap.size ≤ p) (hb : base ≤ W.heap.size) (hl : all.length + d.length ≤ 2000) => show Calls Try.prog 20 #[.pointer (some ⟨p, 0, none⟩), bv] W (fun e w' => e = .returned (.tuple #[]) ∧ ∃ v', HashV base w' p v' (all ++ d) ∧ Fr (hOwn p v) W w') from by
    refine (hwrite_any hv (hr.fr0 hf) (fun h0 hq => by have := Rd.blk_lt hr h0 _ hq; omega) hb (by omega)).mono ?_
    rintro e w' ⟨he, v', hv', hf', -⟩
    exact ⟨he, v', hv', hf'⟩)
  have HSM := Lib.hid (fun (W : World) (base p : Nat) (v : Value) (all : List UInt8) (hv : HashV base W p v all) (hl : all.length ≤ 2000) => hsum_any hv (by omega))
  have HCP := Lib.hid (fun (W : World) (base p : Nat) (v : Value) (all : List UInt8) (hv : HashV base W p v all) => hcopy_any hv)
  obtain ⟨nb, hnb⟩ : ∃ n, n = b.length := ⟨_, rfl⟩
  have R1 := Lib.hid hr1
  have R2 := Lib.hid hr2
  have R3 := Lib.hid hr3
  rw [← hnb] at h hl h2 hsl1 hsl2 hsl3 HP1 HP2 HP3 R3 hcv1 ⊢
  have HRB := Lib.hid h
  have HNB := Lib.hid hnb
  have E12 := Lib.hid e12
  have E23 := Lib.hid e23
  have L1 := Lib.hid (show (b.take cu).length ≤ 2000 by rw [List.length_take, ← hnb]; omega)
  have L2 := Lib.hid (show (b.take cu).length + ((b.take mo).drop cu).length ≤ 2000 by rw [← List.length_append, e12, List.length_take, ← hnb]; omega)
  have L3 := Lib.hid (show (b.take mo).length + (b.drop mo).length ≤ 2000 by rw [← List.length_append, e23, ← hnb]; omega)
  have HNL := Lib.hid hl
  have i1 : (cu : Int) ≤ (mo : Int) := by omega
  have i2 : (mo : Int) ≤ (nb : Int) := by omega
  have i3 : (nb : Int) ≤ 2000 := by omega
  clear h hnb e12 e23 hr1 hr2 hr3
  go_enter Try.func8, Try.ntmps8
  go_upto_region 15 with (first
    | (go_at_call 13; refine (HKN.out _).mono ?_; rintro e w1 ⟨rfl, hf⟩; have F1 := Lib.hid hf; clear hf)
    | (go_at_call 19; refine (HNW.out _).mono ?_; rintro e w2 ⟨p, rfl, hv, hf⟩; have V2 := Lib.hid (show HashV w1.heap.size w2 p _ [] from hv); have F2 := Lib.hid (Fr0.trans F1.out hf); have P2 := Lib.hid (Nat.le_trans (F1.out).size hv.lo); have Z2 := Lib.hid hf.size; clear hv hf)
    | (have _q := V6; go_at_call 20; refine (HWR.out _ _ _ _ _ _ _ R3.out V6.out F6.out (Nat.le_trans (F5.out).size (V6.out).lo) Z6.out L3.out).mono ?_; rintro e w7 ⟨rfl, v7, hv, hf⟩; rw [E23.out] at hv; have V7 := Lib.hid hv; have F7 := Lib.hid (show Fr0 w w7 from Fr.then F6.out hf (fun q hq hl => by have := (HashR.own_lo V6.out q hq).1; have := (F5.out).size; omega)); clear hv hf)
    | (have _q := V4; go_at_call 20; refine (HWR.out _ _ _ _ _ _ _ R2.out V4.out F4.out P2.out Z4.out L2.out).mono ?_; rintro e w5 ⟨rfl, v5, hv, hf⟩; rw [E12.out] at hv; have V5 := Lib.hid hv; have F5 := Lib.hid (show Fr0 w w5 from Fr.then F4.out hf (fun q hq hl => by have := (HashR.own_lo V4.out q hq).1; have := (F1.out).size; omega)); clear hv hf)
    | (go_at_call 20; refine (HWR.out _ _ _ _ _ _ _ R1.out V2.out F2.out P2.out Z2.out (by have := L1.out; simp; omega)).mono ?_; rintro e w3 ⟨rfl, v3, hv, hf⟩; have V3 := Lib.hid (show HashV w1.heap.size w3 p v3 (b.take cu) from hv); have F3 := Lib.hid (show Fr0 w w3 from Fr.then F2.out hf (fun q hq hl => by have := (HashR.own_lo V2.out q hq).1; have := (F1.out).size; omega)); have Z3 := Lib.hid (Nat.le_trans Z2.out hf.size); clear hv hf)
    | (go_at_call 21; refine (HSM.out _ _ _ _ _ V3.out L1.out).mono ?_; rintro e w4 ⟨rfl, hf⟩; have V4 := Lib.hid (HashV.fr0 V3.out hf); have F4 := Lib.hid (Fr0.trans F3.out hf); have Z4 := Lib.hid (Nat.le_trans Z3.out hf.size); clear hf)
    | (go_at_call 22; refine (HCP.out _ _ _ _ _ V5.out).mono ?_; rintro e w6 ⟨p6, v6, rfl, hv, hf⟩; have V6 := Lib.hid hv; have F6 := Lib.hid (Fr0.trans F5.out hf); have Z6 := Lib.hid hf.size; clear hv hf))
  clear hsl1 hsl2 hsl3
  have LB := Lib.hid (lenB_bytes nb HNL.out)
  obtain ⟨b4, hb4⟩ : ∃ x, x = UInt8.ofNat (nb * 8 / 16777216) := ⟨_, rfl⟩
  obtain ⟨b5, hb5⟩ : ∃ x, x = UInt8.ofNat (nb * 8 / 65536) := ⟨_, rfl⟩
  obtain ⟨b6, hb6⟩ : ∃ x, x = UInt8.ofNat (nb * 8 / 256) := ⟨_, rfl⟩
  obtain ⟨b7, hb7⟩ : ∃ x, x = UInt8.ofNat (nb * 8) := ⟨_, rfl⟩
  rw [← hb4, ← hb5, ← hb6, ← hb7] at LB
  have ev4 : Hid (8 * (nb : Int) / 16777216 = (b4.toNat : Int)) := Lib.hid (by rw [hb4, byte_int]; omega)
  have ev5 : Hid (8 * (nb : Int) / 65536 = (b5.toNat : Int)) := Lib.hid (by rw [hb5, byte_int]; omega)
  have ev6 : Hid (8 * (nb : Int) / 256 = (b6.toNat : Int)) := Lib.hid (by rw [hb6, byte_int]; omega)
  have ev7 : Hid (8 * (nb : Int) % 256 = (b7.toNat : Int)) := Lib.hid (by rw [hb7, byte_int]; omega)
  have BL := Lib.hid (And.intro b4.toNat_lt (And.intro b5.toNat_lt (And.intro b6.toNat_lt b7.toNat_lt)))
  clear hb4 hb5 hb6 hb7
  have HPL := Lib.hid (padded_len b)
  have HPP := Lib.hid (show padded b = b ++ 128 :: (List.replicate (padN nb) 0 ++ lenB nb) from by unfold padded; rw [← HNB.out])
  go_upto_region 16 with (first
    | (have _q := S8; refine list_append_sl (base := w7.heap.size) (d := b) (e := [128]) rfl _ _ rfl ((S8.out).fr0 ((Fr0.refl w8).alloc _)) rfl ?_ ?_ rfl ?_ ?_; · (have := (F8.out).size; simp; omega)
       · exact lit_bytes w8 5 [128] (by simp) (0, 0)
       · (have := HNB.out; have := HNL.out; simp; omega)
       intro A9 c9 w9 hS hF hK; have S9 := Lib.hid (show SlO w7.heap.size w9 (.slice A9 (nb + 1) c9) (b ++ [128]) from by have h := hS; rw [show (b ++ [(128 : UInt8)]).length = nb + 1 from by rw [List.length_append, HNB.out]; rfl] at h; exact h); have F9 := Lib.hid (((S8.out).fr0 ((Fr0.refl w8).alloc _)).thenFr ((F8.out).alloc _) hF); rw [show b.length + [(128 : UInt8)].length = nb + 1 from by rw [HNB.out]; rfl]; clear hS hF hK)
    | (refine list_append_sl (base := w7.heap.size) (d := []) (e := b) rfl _ _ rfl (SlO.new0 (Nat.le_refl _)) rfl (by simp) ((HRB.out).fr0 (Fr0.trans F7.out ((Fr0.refl w7).alloc _))) rfl (by have := HNB.out; have := HNL.out; simp; omega) ?_; intro A8 c8 w8 hS hF hK; have S8 := Lib.hid (show SlO w7.heap.size w8 (.slice A8 nb c8) b from by rw [HNB.out]; exact hS); have F8 := Lib.hid ((SlO.new0 (Nat.le_refl _)).thenFr ((Fr0.refl w7).alloc _) hF); rw [show ([] : List UInt8).length + b.length = nb from by rw [HNB.out]; exact Nat.zero_add _]; clear hS hF hK))
  go_wp2_with fail
  go_loopw [9] (fun v9 wr => ∃ (j : Nat) (A : Option Addr) (m c : Nat), j ≤ padN nb ∧ m = nb + 1 + j ∧ v9 = .slice A m c ∧ SlO w7.heap.size wr (.slice A m c) (b ++ 128 :: List.replicate j 0) ∧ Fr0 w7 wr) (fun v9 _ => nb + 1 + padN nb - (match v9 with | .slice _ m _ => m | _ => 0))
  case atStart => exact ⟨0, A9, nb + 1, c9, by omega, rfl, rfl, S9.out, F9.out⟩
  case round =>
    obtain ⟨j, A, m, c, hj, hm, rfl, hS, hF⟩ := hrel
    have HS1 := Lib.hid hS
    have HF := Lib.hid hF
    have hp64 : padN nb < 64 := by unfold padN; omega
    have hm0 : (0 : Int) ≤ (m : Int) := by omega
    have hmb : m ≤ 2065 := by omega
    by_cases hlt : j < padN nb
    · have hne : m % 64 ≠ 56 := by rw [hm]; exact pad_not nb j (by omega)
      have q1 : (((m % 64 : Nat) : Int) != 56) = true := by simp; omega
      have q2 : (m % 64 != 56) = true := by simpa using hne
      have q3 : ((m : Int) % 64 != 56) = true := by simp; omega
      have HM := Lib.hid hm
      have HML := Lib.hid (show m = (b ++ (128 : UInt8) :: List.replicate j (0 : UInt8)).length by rw [hm]; have := HNB.out; simp; omega)
      have HMB := Lib.hid hmb
      clear hm hS hF hne hmb
      go_wp2_with (first
        | (refine list_append_sl (base := w7.heap.size) (d := b ++ 128 :: List.replicate j 0) (e := [0]) rfl _ _ rfl ((HS1.out).fr0 ((Fr0.refl wr).alloc _)) rfl ?_ ?_ rfl ?_ ?_; · (have := (HF.out).size; simp; omega)
           · exact lit_bytes wr 5 [0] (by simp) (0, 0)
           · (have h1 := HML.out; have h2 := HMB.out; rw [← h1]; simp; omega)
           intro A3 c3 w3 hS hF hK; have S3 := Lib.hid hS; have F3 := Lib.hid (((HS1.out).fr0 ((Fr0.refl wr).alloc _)).thenFr ((HF.out).alloc _) hF); rw [show (b ++ (128 : UInt8) :: List.replicate j (0 : UInt8)).length + [(0 : UInt8)].length = m + 1 from by rw [← HML.out]; rfl]; clear hS hF hK))
      go_roundw
      case measure => have := HM.out; simp; omega
      case rel =>
        have h := S3.out
        have hm := HM.out
        rw [show (b ++ 128 :: List.replicate j 0) ++ [0] = b ++ 128 :: List.replicate (j + 1) 0 from by rw [List.append_assoc, List.cons_append, ← List.replicate_succ']] at h
        rw [show (b ++ (128 : UInt8) :: List.replicate (j + 1) (0 : UInt8)).length = m + 1 from by rw [hm]; have := HNB.out; simp; omega] at h
        exact ⟨j + 1, A3, m + 1, c3, by omega, by omega, rfl, h, F3.out⟩
    · obtain rfl : j = padN nb := by omega
      have hm56 : m % 64 = 56 := by rw [hm]; exact pad_end nb
      have q1 : (((m % 64 : Nat) : Int) != 56) = false := by rw [hm56]; rfl
      have q2 : (m % 64 != 56) = false := by rw [hm56]; rfl
      have q3 : ((m : Int) % 64 != 56) = false := by rw [show (m : Int) % 64 = 56 by omega]; rfl
      have HMM := Lib.hid hm
      have HML := Lib.hid (show (b ++ (128 : UInt8) :: List.replicate (padN nb) (0 : UInt8)).length = m by rw [hm]; have := HNB.out; simp; omega)
      obtain ⟨m8, hm8⟩ : ∃ x, x = m + 8 := ⟨_, rfl⟩
      have HM8 := Lib.hid hm8
      clear hm hS hF hlt hj hm56 hm8
      go_upto_region 19 with (fail)
      clear q1 q2 q3
      have e4 := ev4.out
      have e5 := ev5.out
      have e6 := ev6.out
      have e7 := ev7.out
      obtain ⟨t4, t5, t6, t7⟩ := BL.out
      go_upto_region 20 with (refine list_append_sl (base := w7.heap.size) (d := b ++ 128 :: List.replicate (padN nb) 0) (e := [0, 0, 0, 0, b4, b5, b6, b7]) rfl _ _ rfl ((HS1.out).fr0 ((Fr0.refl wr).alloc _)) rfl (by have := (HF.out).size; simp; omega) (lit_bytes wr 5 [0, 0, 0, 0, b4, b5, b6, b7] (by simp) (0, 0)) rfl (by rw [HML.out]; simp; omega) ?_; intro A10 c10 w10 hS hF hK; have S10 := Lib.hid (show SlO w7.heap.size w10 (.slice A10 m8 c10) (padded b) from by rw [HM8.out]; have h := hS; rw [show ((b ++ (128 : UInt8) :: List.replicate (padN nb) (0 : UInt8)) ++ [0, 0, 0, 0, b4, b5, b6, b7]) = padded b from by rw [HPP.out, LB.out, List.append_assoc, List.cons_append]] at h; rw [show (padded b).length = m + 8 from by rw [HPP.out, LB.out]; have := HML.out; simp at this ⊢; omega] at h; exact h); have F10 := Lib.hid (((HS1.out).fr0 ((Fr0.refl wr).alloc _)).thenFr ((HF.out).alloc _) hF); rw [show (b ++ (128 : UInt8) :: List.replicate (padN nb) (0 : UInt8)).length + [(0 : UInt8), 0, 0, 0, b4, b5, b6, b7].length = m8 from by rw [HML.out, HM8.out]; rfl]; clear hS hF hK)
      have HPM := Lib.hid (show m8 = (padded b).length from by rw [HM8.out, HPP.out, LB.out]; have := HML.out; simp at this ⊢; omega)
      have HM8B := Lib.hid (show m8 ≤ 2100 by rw [HM8.out]; omega)
      clear hmb hp64 hm0 e4 e5 e6 e7 t4 t5 t6 t7
      go_upto_region 21 with (refine list_alloc_blk rfl 32 rfl (wA 8 []) (fun W : World => show (Instr.alloc 32 true (.tuple #[])).run Try.prog W = .ok (.pointer (some ⟨W.heap.size, 0, none⟩)) (W.alloc (.cells (wA 8 []) 32)) from by kernel_rfl) ?_; intro g11 w11 hB hF hl11; have B11 := Lib.hid hB; have P11 := Lib.hid ((S10.out).fr0 hF); have F11 := Lib.hid (Fr0.trans F10.out hF); have L11 := Lib.hid hl11; clear hB hF hl11)
      have HW11 := Lib.hid (show w7.heap.size ≤ g11 by have := L11.out; have := (F10.out).size; omega)
      go_wp2_with fail
      go_loopw [12] (fun v12 wr => ∃ k : Nat, k ≤ 8 ∧ v12 = .int .i64 k ∧ SlO w7.heap.size wr (.slice A10 m8 c10) (padded b) ∧ Blk wr g11 (wA 8 (startL.take k)) 32 ∧ Fr0 w7 wr) (fun v12 _ => 8 - (intOf v12).toNat)
      case atStart => exact ⟨0, by omega, rfl, P11.out, by have h := B11.out; exact h, F11.out⟩
      case round =>
        obtain ⟨k, hk, rfl, hP, hB, hF⟩ := hrel
        have QP := Lib.hid hP
        have QB := Lib.hid hB
        have QF := Lib.hid hF
        by_cases hlt : k < 8
        · have e1 : startI k = (startN k : Int) := by unfold startI; rw [if_pos (by omega)]; rfl
          have HSK := Lib.hid (fun W => start_any (k : Int) W)
          rw [e1] at HSK
          have i0 : (0 : Int) ≤ (k : Int) := by omega
          have i1 : (k : Int) < 8 := by omega
          have d7 := hB.cell k (wA_at hlt)
          have f7 := hB.free k
          clear hP hB hF e1
          go_wp2_with (go_at_call 9; refine (HSK.out _).mono ?_; rintro e w12 ⟨rfl, rfl⟩)
          go_roundw
          case measure => simp [intOf]; omega
          case rel =>
            have hB := (QB.out).set k (.int .u32 (startN k : Int))
            have hl : (startL.take k).length = k := by rw [List.length_take, startL_len]; omega
            have hp := wA_push (n := 8) (l := startL.take k) (by omega) (startN k)
            rw [hl] at hp
            rw [hp, ← startL_at hlt] at hB
            have fr := (Fr1.refl g11 wr).set k (.int .u32 (startN k : Int))
            exact ⟨k + 1, by omega, by go_num, (QP.out).fr1 fr QB.out (by decide), hB, Fr0.new QF.out fr HW11.out⟩
        · have hk8 : k = 8 := by omega
          have e8 : ((k : Nat) : Int) = 8 := by omega
          rw [e8]
          clear e8
          subst hk8
          have hstart : wA 8 (startL.take 8) = h8c startH := by
            rw [List.take_of_length_le (Nat.le_of_eq startL_len), ← startL_eq]
            rfl
          rw [hstart] at QB
          obtain ⟨nbk, hnbk⟩ : ∃ n, n = m8 / 64 := ⟨_, rfl⟩
          have HMN := Lib.hid (show m8 = 64 * nbk by have h := HPL.out; rw [← HPM.out] at h; omega)
          have hz64 := Lib.hid (show ∃ z, z = (byts (List.replicate 64 0)).toArray from ⟨_, rfl⟩)
          obtain ⟨z64, hz⟩ := hz64.out
          have HZ64 := Lib.hid (fun W => z64_run W)
          rw [← hz] at HZ64
          have HZS := Lib.hid (show z64.size = 64 by rw [hz, byts_size]; rfl)
          have HZE := Lib.hid hz
          clear hstart hP hB hF hlt hk hnbk hz hz64
          go_wp2_with fail
          go_loopw [13] (fun v13 wr => ∃ (k ki : Nat), k ≤ nbk ∧ v13 = .int .i64 (ki : Int) ∧ Hid (ki = 64 * k) ∧ SlO w7.heap.size wr (.slice A10 m8 c10) (padded b) ∧ Blk wr g11 (h8c (blocksN startH (padded b) turnL k)) 32 ∧ Fr0 w7 wr) (fun v13 _ => m8 - (intOf v13).toNat)
          case atStart => exact ⟨0, 0, Nat.zero_le _, rfl, Lib.hid rfl, QP.out, QB.out, QF.out⟩
          case round =>
            obtain ⟨k, ki, hk, rfl, hki, hP, hB, hF⟩ := hrel
            have hkv := hki.out
            have hmn := HMN.out
            have hmb := HM8B.out
            have i0 : (0 : Int) ≤ (ki : Int) := by omega
            clear QP QB QF P11 B11 F11
            by_cases hlt : k < nbk
            · have UP := Lib.hid hP
              have UB := Lib.hid hB
              have UF := Lib.hid hF
              have hk64 : ki + 64 ≤ m8 := by omega
              have hpl := HPM.out
              obtain ⟨Ax, hsl, hrd, -⟩ := slice_from (P := Try.prog) (T := 27) (A := A10) (c := c10) (d := padded b) (k := ki) Try.underlying27 u8_size (w := wr) (by have h := hP.rd; rw [hpl] at h; exact h) (by omega) (ki : Int) rfl
              rw [← hpl] at hsl hrd
              have HSL := Lib.hid hsl
              have RSL0 := Lib.hid hrd
              have hl64 : (((padded b).drop ki).take 64).length = 64 := by rw [List.length_take, List.length_drop]; omega
              have HT64 := Lib.hid hl64
              have hXok := blocksN_ok startH_ok (padded b) turnL k
              have hZe := blocksN_succ startH (padded b) turnL k
              rw [show k * 64 = ki by omega] at hZe
              have hcp : putAt z64 0 (byts (((padded b).drop ki).take 64)) = (byts (((padded b).drop ki).take 64)).toArray := by
                rw [HZE.out, putAt_zeros (by omega), hl64, Nat.sub_self, List.replicate_zero, List.append_nil]
              obtain ⟨e64, he64⟩ : ∃ x, x = ((padded b).drop ki).take 64 := ⟨_, rfl⟩
              obtain ⟨Z, hZ⟩ : ∃ Z, Z = blocksN startH (padded b) turnL (k + 1) := ⟨_, rfl⟩
              obtain ⟨X, hX⟩ : ∃ X, X = blocksN startH (padded b) turnL k := ⟨_, rfl⟩
              rw [← hX] at hXok hZe UB
              rw [← hZ, ← he64] at hZe
              have HBK := Lib.hid (fun (W : World) => show Calls Try.prog 16 #[.agg (h8c X), .agg (byts e64).toArray] W (fun e w' => e = .returned (.agg (h8c Z)) ∧ Fr0 W w') from by
                rw [hZe]
                exact block_any hXok (by rw [he64]; exact hl64))
              have HCP := Lib.hid (show putAt z64 0 (byts (((padded b).drop ki).take 64)) = (byts e64).toArray by rw [he64]; exact hcp)
              have HI64 := Lib.hid (show (Try.prog.info? 33).map (·.size) = some (byts e64).toArray.size by rw [byts_size, he64, hl64]; kernel_rfl)
              have HZZ := Lib.hid hZ
              have HI8 := Lib.hid (show (Try.prog.info? 32).map (·.size) = some (h8c X).size by kernel_rfl)
              have HIZ := Lib.hid (show (Try.prog.info? 32).map (·.size) = some (h8c Z).size by kernel_rfl)
              have HKI := Lib.hid hkv
              have HLT := Lib.hid hlt
              clear hP hB hF hsl hrd hl64 hXok hZe hcp he64 hZ hX hpl hkv hmn hlt hk
              go_wp2_with (refine list_alloc_blk rfl 33 rfl z64 HZ64.out ?_; intro g14 w29 hB hF hl14; have X14 := Lib.hid (hB.drew); have B14 := Lib.hid (((UB.out).fr0 hF).drew); have P14 := Lib.hid (((UP.out).fr0 hF).fr0 ((Fr0.refl w29).drew)); have Y14 := Lib.hid ((Fr0.trans UF.out hF).drew); have RSL := Lib.hid (((RSL0.out).fr0 hF).fr0 ((Fr0.refl w29).drew)); have L14 := Lib.hid hl14; clear hB hF hl14)
              have HG := Lib.hid (show g11 ≠ g14 by have := (UB.out).lt; have := L14.out; omega)
              have HG7 := Lib.hid (show w7.heap.size ≤ g14 by have := (UF.out).size; have := L14.out; omega)
              have X29 := X14
              refine wp_region_held_drew (S := (fun W => Fr1 g14 w29.drew W)) (by kernel_rfl) (Fr1.refl g14 _) (fun hHeld => ?_)
              have _hI : True := trivial
              clear _hI
              refine takeH (i := 0) rfl (by kernel_rfl) (by kernel_rfl) (by kernel_rfl) (fun _ _ _ h => h) (v := .slice (some ⟨g14, 0, none⟩) 64 64) (.inl ⟨rfl, fun W hW => (by go_simp; try rfl)⟩) (Fr1.refl g14 _) ?_
              try simp only [Act.put, List.setIfInBounds_toArray, List.set_cons_zero, List.set_cons_succ]
              have _hI : True := trivial
              clear _hI
              refine takeH (i := 1) rfl (by kernel_rfl) (by kernel_rfl) (by kernel_rfl) (fun _ _ _ h => h) (.inl ⟨rfl, fun W hW => (by go_simp; try rfl)⟩) (Fr1.refl g14 _) ?_
              try simp only [Act.put, List.setIfInBounds_toArray, List.set_cons_zero, List.set_cons_succ]
              have _hI : True := trivial
              clear _hI
              refine takeH (i := 2) rfl (by kernel_rfl) (by kernel_rfl) (by kernel_rfl) (fun _ _ _ h => h) (.inl ⟨rfl, fun W hW => (by go_simp; try rfl)⟩) (Fr1.refl g14 _) ?_
              try simp only [Act.put, List.setIfInBounds_toArray, List.set_cons_zero, List.set_cons_succ]
              have _hI : True := trivial
              clear _hI
              refine takeH (i := 3) rfl (by kernel_rfl) (by kernel_rfl) (by kernel_rfl) (fun _ _ _ h => h) (v := .slice Ax (m8 - ki) (c10 - ki)) (.inl ⟨rfl, fun W hW => (by have h := HSL.out W; go_simp; try rfl)⟩) (Fr1.refl g14 _) ?_
              try simp only [Act.put, List.setIfInBounds_toArray, List.set_cons_zero, List.set_cons_succ]
              have _hI : True := trivial
              clear _hI
              refine wpAnyH_ready (rs := [4]) (by kernel_rfl) (by simp) (consG rfl rfl (fun K hK => ?_) AllReadyH.nil)
              have _hI : True := trivial
              clear _hI
              refine wp_copy_rd _ _ 27 27 rfl 5 Try.underlying27 (by kernel_rfl) rfl rfl RSL.out X29.out (by rw [HZS.out, HT64.out]; decide) ?_
              intro w30 hB hF
              have X30 := Lib.hid (show Blk w30 g14 (byts e64).toArray 33 from by have h := hB; rw [HCP.out] at h; exact h)
              have F30 := Lib.hid hF
              clear hB hF
              refine hK.out _ _ F30.out ?_
              clear hK
              try simp only [Act.put, List.setIfInBounds_toArray, List.set_cons_zero, List.set_cons_succ]
              refine wpAnyH_done (by kernel_rfl) ?_ _
              have P30 := Lib.hid ((P14.out).fr1 F30.out X29.out (by decide))
              have B30 := Lib.hid ((B14.out).fr1 F30.out HG.out)
              have Y30 := Lib.hid (Fr0.new Y14.out F30.out HG7.out)
              go_wp2_with (first
                | (refine list_load_blk rfl 32 _ rfl g11 rfl 32 (h8c X) B30.out _ Try.underlying32 rfl HI8.out ?_)
                | (refine list_load_blk rfl 33 _ rfl g14 rfl 33 (byts e64).toArray X30.out _ Try.underlying33 rfl HI64.out ?_)
                | (go_at_call 16; refine (HBK.out _).mono ?_; rintro e w31 ⟨rfl, hf⟩; have P31 := Lib.hid ((P30.out).fr0 hf); have B31 := Lib.hid ((B30.out).fr0 hf); have Y31 := Lib.hid (Fr0.trans Y30.out hf); clear hf)
                | (refine list_store_blk rfl 32 _ _ rfl g11 (h8c Z) rfl rfl 32 (h8c X) B31.out HIZ.out rfl (h8_one Z) ?_; intro w32 hB hF; have B32 := Lib.hid hB; have P32 := Lib.hid ((P31.out).fr1 hF B31.out (by decide)); have Y32 := Lib.hid (Fr0.new Y31.out hF HW11.out); clear hB hF))
              go_roundw
              case measure => simp [intOf]; omega
              case rel =>
                have h := B32.out
                rw [HZZ.out] at h
                have h1 := HKI.out
                have h2 := HLT.out
                exact ⟨k + 1, ki + 64, by omega, by go_num, Lib.hid (by omega), P32.out, h, Y32.out⟩
            · obtain rfl : k = nbk := by omega
              have hXs : blocksN startH (padded b) turnL k = hX (padded b) := by unfold hX; rw [← HPM.out, hmn]; congr 1; omega
              rw [hXs] at hB
              have HSHA := Lib.hid (sha_eq b)
              have HOB := Lib.hid (fun (i : Nat) (hi : i < 32) => show (shaN b).getD i 0 = UInt8.ofNat ((hX (padded b)).list.getD (i / 4) 0 / 2 ^ (24 - 8 * (i % 4))) from by
                have h := outB_at (hX (padded b)) (i / 4) (i % 4) (by omega) (by omega)
                rw [show 4 * (i / 4) + i % 4 = i by omega] at h
                rw [sha_eq]
                exact h)
              obtain ⟨X, hXX⟩ : ∃ X, X = hX (padded b) := ⟨_, rfl⟩
              rw [← hXX] at hB HOB
              have q4 : ¬ ((ki : Int) + 64 ≤ (m8 : Int)) := by omega
              have q5 : decide ((ki : Int) + 64 ≤ (m8 : Int)) = false := decide_eq_false q4
              have q6 : decide (ki + 64 ≤ m8) = false := by simp; omega
              have q7 : m8 < ki + 64 := by omega
              have q8 : ki ≤ 2200 := by omega
              have UB := Lib.hid hB
              have UF := Lib.hid hF
              have hl32 := sha_len b
              have HEQ := Lib.hid (fun W => dig_eql (sha_len b) (sha_len b) W)
              rw [decide_eq_true rfl] at HEQ
              have HIW := Lib.hid (dig_info (sha_len b))
              have HZ8 := Lib.hid (z32_size (sha_len b))
              have HALL := Lib.hid (byts_all (shaN b))
              have HCL := Lib.hid (fun (i : Nat) (hi : i < 32) => byts_getD (shaN b) i (by rw [hl32]; exact hi))
              have HP1S := Lib.hid (fun (W : World) (g : Nat) (hf : Fr0 w W) (hb : Blk W g #[.slice Av nb cv] 27) => show Calls Try.prog 14 #[.slice (some ⟨g, 0, none⟩) 1 1] W (fun e w' => e = .returned (.agg (byts (shaN b)).toArray) ∧ Fr0 W w') from
                sumP1 ((HRB.out).fr0 hf) (by have := HNB.out; have := HNL.out; omega) hb)
              have HSC := Lib.hid (fun (W : World) (hf : Fr0 w7 W) => show Calls Try.prog 21 #[.pointer (some ⟨p6, 0, none⟩)] W (fun e w' => e = .returned (.agg (byts (shaN b)).toArray) ∧ Fr0 W w') from
                hsum_any (HashV.fr0 V7.out hf) (by have := HNB.out; have := HNL.out; omega))
              have HLN := Lib.hid (fun (W : World) (hf : Fr0 w7 W) => show Calls Try.prog 23 #[.pointer (some ⟨p6, 0, none⟩)] W (fun e w' => e = .returned (.int .i64 nb) ∧ W = w') from by
                have h := hlen_any (HashV.fr0 V7.out hf)
                rw [← HNB.out] at h
                exact h)
              have HS3 := Lib.hid (fun (W : World) (g : Nat) (hf : Fr0 w W) (hb : Blk W g #[.slice Av cu cv, .slice A2 n2 c2, .slice A3 (nb - mo) (cv - mo)] 27) => show Calls Try.prog 14 #[.slice (some ⟨g, 0, none⟩) 3 3] W (fun e w' => e = .returned (.agg (byts (shaN b)).toArray) ∧ Fr0 W w') from by
                have h := sumP3 ((R1.out).fr0 hf) ((R2.out).fr0 hf) ((R3.out).fr0 hf) (by have h1 := L2.out; have h2 := L3.out; have h3 := congrArg List.length E12.out; have h4 := congrArg List.length E23.out; rw [List.length_append] at h3 h4; have := HNB.out; have := HNL.out; omega) hb
                rw [← List.append_assoc, E12.out, E23.out] at h
                exact h)
              have HSHN := Lib.hid (show ∃ x, x = shaN b from ⟨_, rfl⟩)
              obtain ⟨sh, hsh⟩ := HSHN.out
              rw [← hsh] at HOB HCL
              obtain ⟨sw, hsw⟩ : ∃ x, x = (byts (shaN b)).toArray := ⟨_, rfl⟩
              rw [← hsw] at HEQ HIW HZ8 HALL HP1S HSC HS3
              rw [hsh, ← hsw, ← hsh] at HCL
              have HE := HEQ
              clear hkv hmn hXs hXX hP hB hF hlt hk q4 hki hl32 hsw hsh hmb
              go_upto_region 32 with (first
                | (refine list_built_blk rfl 26 27 1 _ rfl #[.slice Av nb cv] (fun W => by go_simp; try rfl) ?_; intro g30 w30 hB hF hg; have K30 := Lib.hid hB; have B30 := Lib.hid ((UB.out).fr0 hF); have F30 := Lib.hid (Fr0.trans UF.out hF); clear hB hF hg)
                | (go_at_call 14; refine (HP1S.out _ _ (Fr0.trans F7.out F30.out) K30.out).mono ?_; rintro e w31 ⟨rfl, hf⟩; have B31 := Lib.hid ((B30.out).fr0 hf); have F31 := Lib.hid (Fr0.trans F30.out hf); clear hf)
                | (refine list_alloc_blk rfl 28 rfl z32A z32_run ?_; intro g15 w32 hB hF hl15; have Z32 := Lib.hid hB; have B32 := Lib.hid ((B31.out).fr0 hF); have F32 := Lib.hid (Fr0.trans F31.out hF); have L15 := Lib.hid hl15; clear hB hF hl15)
                | (refine list_store_blk rfl 28 _ _ rfl g15 sw rfl rfl 28 z32A Z32.out HIW.out HZ8.out HALL.out ?_; intro w33 hB hF; have W33 := Lib.hid hB; have B33 := Lib.hid ((B32.out).fr1 hF (by have := (B31.out).lt; have := L15.out; omega)); have F33 := Lib.hid (Fr0.new F32.out hF (by have := (F31.out).size; have := L15.out; omega)); clear hB hF))
              clear q5 q6 q7 q8 i0
              go_wp2_with fail
              go_loopw [16] (fun v16 wr => ∃ i : Nat, i ≤ 32 ∧ v16 = .int .i64 i ∧ Fr0 w33 wr) (fun v16 _ => 32 - (intOf v16).toNat)
              case atStart => exact ⟨0, by omega, rfl, Fr0.refl _⟩
              case round =>
                obtain ⟨i, hi, rfl, hF⟩ := hrel
                by_cases hlt : i < 32
                · obtain ⟨a, b4, ha, hb4, ha4, hab⟩ : ∃ a b, a < 8 ∧ b < 4 ∧ i / 4 = a ∧ i % 4 = b := ⟨i / 4, i % 4, by omega, by omega, rfl, rfl⟩
                  have HF := Lib.hid hF
                  have i0 : (0 : Int) ≤ (i : Int) := by omega
                  have i1 : (i : Int) < 32 := by omega
                  have j0 : (0 : Int) ≤ (a : Int) := by omega
                  have j1 : (a : Int) < 8 := by omega
                  have t1 : (i : Int) / 4 = (a : Int) := by omega
                  have t2 : (i : Int) % 4 = (b4 : Int) := by omega
                  have t3 : (i : Int).tdiv 4 = (a : Int) := by rw [Int.tdiv_eq_ediv_of_nonneg i0]; exact t1
                  have t4 : (i : Int).tmod 4 = (b4 : Int) := by rw [Int.tmod_eq_emod_of_nonneg i0]; exact t2
                  have hbk := HOB.out i hlt
                  rw [ha4, hab] at hbk
                  have d15 := (W33.out).cell i (HCL.out i hlt)
                  have d11 := (B33.out).cell a (v := .int .u32 ((X.list.getD a 0 : Nat) : Int)) (by rw [← h8_wA]; exact wA_at ha)
                  obtain ⟨xa, hxa⟩ : ∃ xa, xa = X.list.getD a 0 := ⟨_, rfl⟩
                  obtain ⟨bk, hbe⟩ : ∃ bk, bk = sh.getD i 0 := ⟨_, rfl⟩
                  rw [← hxa] at hbk d11
                  rw [← hbe] at hbk d15
                  have HC := Lib.hid (fun (W : World) (h : Fr0 w33 W) => show W.cell? ⟨g15, i, none⟩ = some (.int .u8 (bk.toNat : Int)) ∧ W.cell? ⟨g11, a, none⟩ = some (.int .u32 (xa : Int)) from ⟨h.cell d15, h.cell d11⟩)
                  have HBK := Lib.hid hbk
                  clear hF hxa hbe hbk d15 d11 ha ha4 hab
                  rcases (by omega : b4 = 0 ∨ b4 = 1 ∨ b4 = 2 ∨ b4 = 3) with hb | hb | hb | hb
                  · obtain rfl : b4 = 0 := by omega
                    have ev : ((xa : Int) / 16777216) % 256 = (bk.toNat : Int) := by rw [HBK.out, byte_int]; omega
                    clear hb4 hb
                    go_wp2_with fail
                    have _hJ : True := trivial
                    clear _hJ
                    refine wp_region_class (fun W => Fr0 wr W) (by kernel_rfl) (by kernel_rfl) ((Fr0.refl _).drew) ?_
                    refine q_val (v := .int .i64 (i : Int)) rfl (fun W hW => by go_simp; try rfl) ?_
                    simp only [Act.put, List.setIfInBounds_toArray, List.set_cons_zero, List.set_cons_succ]
                    refine q_val (v := .pointer (some ⟨g15, i, none⟩)) rfl (fun W hW => by go_simp; try rfl) ?_
                    simp only [Act.put, List.setIfInBounds_toArray, List.set_cons_zero, List.set_cons_succ]
                    refine q_val (v := .int .u8 (bk.toNat : Int)) rfl (fun W hW => by have hc := (HC.out) W (Fr0.trans HF.out hW); go_simp; try rfl) ?_
                    simp only [Act.put, List.setIfInBounds_toArray, List.set_cons_zero, List.set_cons_succ]
                    refine q_val (v := .int .i64 (i : Int)) rfl (fun W hW => by go_simp; try rfl) ?_
                    simp only [Act.put, List.setIfInBounds_toArray, List.set_cons_zero, List.set_cons_succ]
                    refine q_val (v := .int .i64 (a : Int)) rfl (fun W hW => by go_simp; exact wi64 _ j0 (by omega)) ?_
                    simp only [Act.put, List.setIfInBounds_toArray, List.set_cons_zero, List.set_cons_succ]
                    refine q_val (v := .pointer (some ⟨g11, a, none⟩)) rfl (fun W hW => by go_simp; try rfl) ?_
                    simp only [Act.put, List.setIfInBounds_toArray, List.set_cons_zero, List.set_cons_succ]
                    refine q_val (v := .int .u32 (xa : Int)) rfl (fun W hW => by have hc := (HC.out) W (Fr0.trans HF.out hW); go_simp; try rfl) ?_
                    simp only [Act.put, List.setIfInBounds_toArray, List.set_cons_zero, List.set_cons_succ]
                    refine q_val (v := .int .i64 (i : Int)) rfl (fun W hW => by go_simp; try rfl) ?_
                    simp only [Act.put, List.setIfInBounds_toArray, List.set_cons_zero, List.set_cons_succ]
                    refine q_val (v := .int .i64 0) rfl (fun W hW => by go_simp; try rfl) ?_
                    simp only [Act.put, List.setIfInBounds_toArray, List.set_cons_zero, List.set_cons_succ]
                    refine q_val (v := .int .i64 0) rfl (fun W hW => by go_simp; try rfl) ?_
                    simp only [Act.put, List.setIfInBounds_toArray, List.set_cons_zero, List.set_cons_succ]
                    refine q_val (v := .int .i64 24) rfl (fun W hW => by go_simp; try rfl) ?_
                    simp only [Act.put, List.setIfInBounds_toArray, List.set_cons_zero, List.set_cons_succ]
                    refine q_val (v := .int .u64 24) rfl (fun W hW => by go_simp; try rfl) ?_
                    simp only [Act.put, List.setIfInBounds_toArray, List.set_cons_zero, List.set_cons_succ]
                    refine q_val (v := .int .u32 ((xa : Int) / 16777216)) rfl (fun W hW => by go_simp; try rfl) ?_
                    simp only [Act.put, List.setIfInBounds_toArray, List.set_cons_zero, List.set_cons_succ]
                    refine q_val (v := .int .u8 (bk.toNat : Int)) rfl (fun W hW => by go_simp; exact (wu8 _).trans ev) ?_
                    simp only [Act.put, List.setIfInBounds_toArray, List.set_cons_zero, List.set_cons_succ]
                    refine q_val (v := .bool false) rfl (fun W hW => by go_simp; try rfl) ?_
                    simp only [Act.put, List.setIfInBounds_toArray, List.set_cons_zero, List.set_cons_succ]
                    refine q_nil ?_
                    intro w' hC
                    go_wp2_with fail
                    go_roundw
                    case measure => simp [intOf]; omega
                    case rel => exact ⟨i + 1, by omega, by go_num, Fr0.trans HF.out hC⟩
                  · obtain rfl : b4 = 1 := by omega
                    have ev : ((xa : Int) / 65536) % 256 = (bk.toNat : Int) := by rw [HBK.out, byte_int]; omega
                    clear hb4 hb
                    go_wp2_with fail
                    have _hJ : True := trivial
                    clear _hJ
                    refine wp_region_class (fun W => Fr0 wr W) (by kernel_rfl) (by kernel_rfl) ((Fr0.refl _).drew) ?_
                    refine q_val (v := .int .i64 (i : Int)) rfl (fun W hW => by go_simp; try rfl) ?_
                    simp only [Act.put, List.setIfInBounds_toArray, List.set_cons_zero, List.set_cons_succ]
                    refine q_val (v := .pointer (some ⟨g15, i, none⟩)) rfl (fun W hW => by go_simp; try rfl) ?_
                    simp only [Act.put, List.setIfInBounds_toArray, List.set_cons_zero, List.set_cons_succ]
                    refine q_val (v := .int .u8 (bk.toNat : Int)) rfl (fun W hW => by have hc := (HC.out) W (Fr0.trans HF.out hW); go_simp; try rfl) ?_
                    simp only [Act.put, List.setIfInBounds_toArray, List.set_cons_zero, List.set_cons_succ]
                    refine q_val (v := .int .i64 (i : Int)) rfl (fun W hW => by go_simp; try rfl) ?_
                    simp only [Act.put, List.setIfInBounds_toArray, List.set_cons_zero, List.set_cons_succ]
                    refine q_val (v := .int .i64 (a : Int)) rfl (fun W hW => by go_simp; exact wi64 _ j0 (by omega)) ?_
                    simp only [Act.put, List.setIfInBounds_toArray, List.set_cons_zero, List.set_cons_succ]
                    refine q_val (v := .pointer (some ⟨g11, a, none⟩)) rfl (fun W hW => by go_simp; try rfl) ?_
                    simp only [Act.put, List.setIfInBounds_toArray, List.set_cons_zero, List.set_cons_succ]
                    refine q_val (v := .int .u32 (xa : Int)) rfl (fun W hW => by have hc := (HC.out) W (Fr0.trans HF.out hW); go_simp; try rfl) ?_
                    simp only [Act.put, List.setIfInBounds_toArray, List.set_cons_zero, List.set_cons_succ]
                    refine q_val (v := .int .i64 (i : Int)) rfl (fun W hW => by go_simp; try rfl) ?_
                    simp only [Act.put, List.setIfInBounds_toArray, List.set_cons_zero, List.set_cons_succ]
                    refine q_val (v := .int .i64 1) rfl (fun W hW => by go_simp; try rfl) ?_
                    simp only [Act.put, List.setIfInBounds_toArray, List.set_cons_zero, List.set_cons_succ]
                    refine q_val (v := .int .i64 8) rfl (fun W hW => by go_simp; try rfl) ?_
                    simp only [Act.put, List.setIfInBounds_toArray, List.set_cons_zero, List.set_cons_succ]
                    refine q_val (v := .int .i64 16) rfl (fun W hW => by go_simp; try rfl) ?_
                    simp only [Act.put, List.setIfInBounds_toArray, List.set_cons_zero, List.set_cons_succ]
                    refine q_val (v := .int .u64 16) rfl (fun W hW => by go_simp; try rfl) ?_
                    simp only [Act.put, List.setIfInBounds_toArray, List.set_cons_zero, List.set_cons_succ]
                    refine q_val (v := .int .u32 ((xa : Int) / 65536)) rfl (fun W hW => by go_simp; try rfl) ?_
                    simp only [Act.put, List.setIfInBounds_toArray, List.set_cons_zero, List.set_cons_succ]
                    refine q_val (v := .int .u8 (bk.toNat : Int)) rfl (fun W hW => by go_simp; exact (wu8 _).trans ev) ?_
                    simp only [Act.put, List.setIfInBounds_toArray, List.set_cons_zero, List.set_cons_succ]
                    refine q_val (v := .bool false) rfl (fun W hW => by go_simp; try rfl) ?_
                    simp only [Act.put, List.setIfInBounds_toArray, List.set_cons_zero, List.set_cons_succ]
                    refine q_nil ?_
                    intro w' hC
                    go_wp2_with fail
                    go_roundw
                    case measure => simp [intOf]; omega
                    case rel => exact ⟨i + 1, by omega, by go_num, Fr0.trans HF.out hC⟩
                  · obtain rfl : b4 = 2 := by omega
                    have ev : ((xa : Int) / 256) % 256 = (bk.toNat : Int) := by rw [HBK.out, byte_int]; omega
                    clear hb4 hb
                    go_wp2_with fail
                    have _hJ : True := trivial
                    clear _hJ
                    refine wp_region_class (fun W => Fr0 wr W) (by kernel_rfl) (by kernel_rfl) ((Fr0.refl _).drew) ?_
                    refine q_val (v := .int .i64 (i : Int)) rfl (fun W hW => by go_simp; try rfl) ?_
                    simp only [Act.put, List.setIfInBounds_toArray, List.set_cons_zero, List.set_cons_succ]
                    refine q_val (v := .pointer (some ⟨g15, i, none⟩)) rfl (fun W hW => by go_simp; try rfl) ?_
                    simp only [Act.put, List.setIfInBounds_toArray, List.set_cons_zero, List.set_cons_succ]
                    refine q_val (v := .int .u8 (bk.toNat : Int)) rfl (fun W hW => by have hc := (HC.out) W (Fr0.trans HF.out hW); go_simp; try rfl) ?_
                    simp only [Act.put, List.setIfInBounds_toArray, List.set_cons_zero, List.set_cons_succ]
                    refine q_val (v := .int .i64 (i : Int)) rfl (fun W hW => by go_simp; try rfl) ?_
                    simp only [Act.put, List.setIfInBounds_toArray, List.set_cons_zero, List.set_cons_succ]
                    refine q_val (v := .int .i64 (a : Int)) rfl (fun W hW => by go_simp; exact wi64 _ j0 (by omega)) ?_
                    simp only [Act.put, List.setIfInBounds_toArray, List.set_cons_zero, List.set_cons_succ]
                    refine q_val (v := .pointer (some ⟨g11, a, none⟩)) rfl (fun W hW => by go_simp; try rfl) ?_
                    simp only [Act.put, List.setIfInBounds_toArray, List.set_cons_zero, List.set_cons_succ]
                    refine q_val (v := .int .u32 (xa : Int)) rfl (fun W hW => by have hc := (HC.out) W (Fr0.trans HF.out hW); go_simp; try rfl) ?_
                    simp only [Act.put, List.setIfInBounds_toArray, List.set_cons_zero, List.set_cons_succ]
                    refine q_val (v := .int .i64 (i : Int)) rfl (fun W hW => by go_simp; try rfl) ?_
                    simp only [Act.put, List.setIfInBounds_toArray, List.set_cons_zero, List.set_cons_succ]
                    refine q_val (v := .int .i64 2) rfl (fun W hW => by go_simp; try rfl) ?_
                    simp only [Act.put, List.setIfInBounds_toArray, List.set_cons_zero, List.set_cons_succ]
                    refine q_val (v := .int .i64 16) rfl (fun W hW => by go_simp; try rfl) ?_
                    simp only [Act.put, List.setIfInBounds_toArray, List.set_cons_zero, List.set_cons_succ]
                    refine q_val (v := .int .i64 8) rfl (fun W hW => by go_simp; try rfl) ?_
                    simp only [Act.put, List.setIfInBounds_toArray, List.set_cons_zero, List.set_cons_succ]
                    refine q_val (v := .int .u64 8) rfl (fun W hW => by go_simp; try rfl) ?_
                    simp only [Act.put, List.setIfInBounds_toArray, List.set_cons_zero, List.set_cons_succ]
                    refine q_val (v := .int .u32 ((xa : Int) / 256)) rfl (fun W hW => by go_simp; try rfl) ?_
                    simp only [Act.put, List.setIfInBounds_toArray, List.set_cons_zero, List.set_cons_succ]
                    refine q_val (v := .int .u8 (bk.toNat : Int)) rfl (fun W hW => by go_simp; exact (wu8 _).trans ev) ?_
                    simp only [Act.put, List.setIfInBounds_toArray, List.set_cons_zero, List.set_cons_succ]
                    refine q_val (v := .bool false) rfl (fun W hW => by go_simp; try rfl) ?_
                    simp only [Act.put, List.setIfInBounds_toArray, List.set_cons_zero, List.set_cons_succ]
                    refine q_nil ?_
                    intro w' hC
                    go_wp2_with fail
                    go_roundw
                    case measure => simp [intOf]; omega
                    case rel => exact ⟨i + 1, by omega, by go_num, Fr0.trans HF.out hC⟩
                  · obtain rfl : b4 = 3 := by omega
                    have ev : (xa : Int) % 256 = (bk.toNat : Int) := by rw [HBK.out, byte_int]; omega
                    clear hb4 hb
                    go_wp2_with fail
                    have _hJ : True := trivial
                    clear _hJ
                    refine wp_region_class (fun W => Fr0 wr W) (by kernel_rfl) (by kernel_rfl) ((Fr0.refl _).drew) ?_
                    refine q_val (v := .int .i64 (i : Int)) rfl (fun W hW => by go_simp; try rfl) ?_
                    simp only [Act.put, List.setIfInBounds_toArray, List.set_cons_zero, List.set_cons_succ]
                    refine q_val (v := .pointer (some ⟨g15, i, none⟩)) rfl (fun W hW => by go_simp; try rfl) ?_
                    simp only [Act.put, List.setIfInBounds_toArray, List.set_cons_zero, List.set_cons_succ]
                    refine q_val (v := .int .u8 (bk.toNat : Int)) rfl (fun W hW => by have hc := (HC.out) W (Fr0.trans HF.out hW); go_simp; try rfl) ?_
                    simp only [Act.put, List.setIfInBounds_toArray, List.set_cons_zero, List.set_cons_succ]
                    refine q_val (v := .int .i64 (i : Int)) rfl (fun W hW => by go_simp; try rfl) ?_
                    simp only [Act.put, List.setIfInBounds_toArray, List.set_cons_zero, List.set_cons_succ]
                    refine q_val (v := .int .i64 (a : Int)) rfl (fun W hW => by go_simp; exact wi64 _ j0 (by omega)) ?_
                    simp only [Act.put, List.setIfInBounds_toArray, List.set_cons_zero, List.set_cons_succ]
                    refine q_val (v := .pointer (some ⟨g11, a, none⟩)) rfl (fun W hW => by go_simp; try rfl) ?_
                    simp only [Act.put, List.setIfInBounds_toArray, List.set_cons_zero, List.set_cons_succ]
                    refine q_val (v := .int .u32 (xa : Int)) rfl (fun W hW => by have hc := (HC.out) W (Fr0.trans HF.out hW); go_simp; try rfl) ?_
                    simp only [Act.put, List.setIfInBounds_toArray, List.set_cons_zero, List.set_cons_succ]
                    refine q_val (v := .int .i64 (i : Int)) rfl (fun W hW => by go_simp; try rfl) ?_
                    simp only [Act.put, List.setIfInBounds_toArray, List.set_cons_zero, List.set_cons_succ]
                    refine q_val (v := .int .i64 3) rfl (fun W hW => by go_simp; try rfl) ?_
                    simp only [Act.put, List.setIfInBounds_toArray, List.set_cons_zero, List.set_cons_succ]
                    refine q_val (v := .int .i64 24) rfl (fun W hW => by go_simp; try rfl) ?_
                    simp only [Act.put, List.setIfInBounds_toArray, List.set_cons_zero, List.set_cons_succ]
                    refine q_val (v := .int .i64 0) rfl (fun W hW => by go_simp; try rfl) ?_
                    simp only [Act.put, List.setIfInBounds_toArray, List.set_cons_zero, List.set_cons_succ]
                    refine q_val (v := .int .u64 0) rfl (fun W hW => by go_simp; try rfl) ?_
                    simp only [Act.put, List.setIfInBounds_toArray, List.set_cons_zero, List.set_cons_succ]
                    refine q_val (v := .int .u32 (xa : Int)) rfl (fun W hW => by go_simp; try rfl) ?_
                    simp only [Act.put, List.setIfInBounds_toArray, List.set_cons_zero, List.set_cons_succ]
                    refine q_val (v := .int .u8 (bk.toNat : Int)) rfl (fun W hW => by go_simp; exact (wu8 _).trans ev) ?_
                    simp only [Act.put, List.setIfInBounds_toArray, List.set_cons_zero, List.set_cons_succ]
                    refine q_val (v := .bool false) rfl (fun W hW => by go_simp; try rfl) ?_
                    simp only [Act.put, List.setIfInBounds_toArray, List.set_cons_zero, List.set_cons_succ]
                    refine q_nil ?_
                    intro w' hC
                    go_wp2_with fail
                    go_roundw
                    case measure => simp [intOf]; omega
                    case rel => exact ⟨i + 1, by omega, by go_num, Fr0.trans HF.out hC⟩
                · obtain rfl : i = 32 := by omega
                  have FA := Lib.hid ((Fr0.trans F7.out (Fr0.trans F33.out hF)).drew)
                  have F7A := Lib.hid ((Fr0.trans F33.out hF).drew)
                  have W15 := Lib.hid ((((W33.out).fr0 hF)).drew)
                  have HSC' := Lib.hid (fun (W : World) (hf : Fr0 wr.drew W) => HSC.out W (Fr0.trans F7A.out hf))
                  have HLN' := Lib.hid (fun (W : World) (hf : Fr0 wr.drew W) => HLN.out W (Fr0.trans F7A.out hf))
                  have HS3' := Lib.hid (fun (W : World) (g : Nat) (hf : Fr0 wr.drew W) => HS3.out W g (Fr0.trans FA.out hf))
                  clear HSC HLN HS3 hF hlt hi
                  go_wp2_with fail
                  refine wp_region_held_drew (S := (fun W => Fr0 wr.drew W)) (by kernel_rfl) (Fr0.refl _) (fun hHeld => ?_)
                  generalize wr.drew = wa at *
                  have UF := Lib.hid (Fr0.refl wa)
                  have _hI : True := trivial
                  clear _hI
                  refine takeH (i := 0) rfl (by kernel_rfl) (by kernel_rfl) (by kernel_rfl) (fun _ _ _ h => h) (.inl ⟨rfl, fun W hW => (by go_simp; try rfl)⟩) UF.out ?_
                  try simp only [Act.put, List.setIfInBounds_toArray, List.set_cons_zero, List.set_cons_succ]
                  have _hI : True := trivial
                  clear _hI
                  refine takeH (i := 2) rfl (by kernel_rfl) (by kernel_rfl) (by kernel_rfl) (fun _ _ _ h => h) (yields_load_w (by rfl) 28 _ rfl g15 rfl 28 sw (fun W hW => (W15.out).fr0 hW) _ Try.underlying28 rfl HIW.out) UF.out ?_
                  try simp only [Act.put, List.setIfInBounds_toArray, List.set_cons_zero, List.set_cons_succ]
                  have _hI : True := trivial
                  clear _hI
                  refine wpAnyH_ready (rs := [1]) (by kernel_rfl) (by simp) (consG rfl rfl (fun K hK => ?_) AllReadyH.nil)
                  have _hI : True := trivial
                  clear _hI
                  go_simp
                  refine (HSC'.out _ UF.out).mono ?_
                  rintro e Wn ⟨rfl, hf⟩
                  replace UF := Lib.hid (Fr0.trans UF.out hf)
                  clear hf
                  refine hK.out _ _ UF.out ?_
                  clear hK
                  try simp only [Act.put, List.setIfInBounds_toArray, List.set_cons_zero, List.set_cons_succ]
                  have _hI : True := trivial
                  clear _hI
                  refine takeH (i := 3) rfl (by kernel_rfl) (by kernel_rfl) (by kernel_rfl) (fun _ _ _ h => h) (v := .bool true) (.inl ⟨rfl, fun W hW => bin_run2 rfl rfl rfl (dig_guard _ _ _ _ _ W) (HE.out W)⟩) UF.out ?_
                  try simp only [Act.put, List.setIfInBounds_toArray, List.set_cons_zero, List.set_cons_succ]
                  have _hI : True := trivial
                  clear _hI
                  refine takeH (i := 4) rfl (by kernel_rfl) (by kernel_rfl) (by kernel_rfl) (fun _ _ _ h => h) (.inl ⟨rfl, fun W hW => (by go_simp; try rfl)⟩) UF.out ?_
                  try simp only [Act.put, List.setIfInBounds_toArray, List.set_cons_zero, List.set_cons_succ]
                  have _hI : True := trivial
                  clear _hI
                  refine takeH (i := 5) rfl (by kernel_rfl) (by kernel_rfl) (by kernel_rfl) (fun _ _ _ h => h) (.inl ⟨rfl, fun W hW => (by go_simp; try rfl)⟩) UF.out ?_
                  try simp only [Act.put, List.setIfInBounds_toArray, List.set_cons_zero, List.set_cons_succ]
                  have _hI : True := trivial
                  clear _hI
                  refine takeH (i := 6) rfl (by kernel_rfl) (by kernel_rfl) (by kernel_rfl) (fun _ _ _ h => h) (.inl ⟨rfl, fun W hW => (by go_simp; try rfl)⟩) UF.out ?_
                  try simp only [Act.put, List.setIfInBounds_toArray, List.set_cons_zero, List.set_cons_succ]
                  have _hI : True := trivial
                  clear _hI
                  refine takeH (i := 7) rfl (by kernel_rfl) (by kernel_rfl) (by kernel_rfl) (fun _ _ _ h => h) (v := .slice Av cu cv) (.inl ⟨rfl, fun W hW => (by have h := HP1.out W; go_simp; try rfl)⟩) UF.out ?_
                  try simp only [Act.put, List.setIfInBounds_toArray, List.set_cons_zero, List.set_cons_succ]
                  have _hI : True := trivial
                  clear _hI
                  refine takeH (i := 8) rfl (by kernel_rfl) (by kernel_rfl) (by kernel_rfl) (fun _ _ _ h => h) (.inl ⟨rfl, fun W hW => (by go_simp; try rfl)⟩) UF.out ?_
                  try simp only [Act.put, List.setIfInBounds_toArray, List.set_cons_zero, List.set_cons_succ]
                  have _hI : True := trivial
                  clear _hI
                  refine takeH (i := 9) rfl (by kernel_rfl) (by kernel_rfl) (by kernel_rfl) (fun _ _ _ h => h) (.inl ⟨rfl, fun W hW => (by go_simp; try rfl)⟩) UF.out ?_
                  try simp only [Act.put, List.setIfInBounds_toArray, List.set_cons_zero, List.set_cons_succ]
                  have _hI : True := trivial
                  clear _hI
                  refine takeH (i := 10) rfl (by kernel_rfl) (by kernel_rfl) (by kernel_rfl) (fun _ _ _ h => h) (.inl ⟨rfl, fun W hW => (by go_simp; try rfl)⟩) UF.out ?_
                  try simp only [Act.put, List.setIfInBounds_toArray, List.set_cons_zero, List.set_cons_succ]
                  have _hI : True := trivial
                  clear _hI
                  refine takeH (i := 11) rfl (by kernel_rfl) (by kernel_rfl) (by kernel_rfl) (fun _ _ _ h => h) (v := .slice A2 n2 c2) (.inl ⟨rfl, fun W hW => (by have h := HP2.out W; go_simp; try rfl)⟩) UF.out ?_
                  try simp only [Act.put, List.setIfInBounds_toArray, List.set_cons_zero, List.set_cons_succ]
                  have _hI : True := trivial
                  clear _hI
                  refine takeH (i := 12) rfl (by kernel_rfl) (by kernel_rfl) (by kernel_rfl) (fun _ _ _ h => h) (.inl ⟨rfl, fun W hW => (by go_simp; try rfl)⟩) UF.out ?_
                  try simp only [Act.put, List.setIfInBounds_toArray, List.set_cons_zero, List.set_cons_succ]
                  have _hI : True := trivial
                  clear _hI
                  refine takeH (i := 13) rfl (by kernel_rfl) (by kernel_rfl) (by kernel_rfl) (fun _ _ _ h => h) (.inl ⟨rfl, fun W hW => (by go_simp; try rfl)⟩) UF.out ?_
                  try simp only [Act.put, List.setIfInBounds_toArray, List.set_cons_zero, List.set_cons_succ]
                  have _hI : True := trivial
                  clear _hI
                  refine takeH (i := 14) rfl (by kernel_rfl) (by kernel_rfl) (by kernel_rfl) (fun _ _ _ h => h) (v := .slice A3 (nb - mo) (cv - mo)) (.inl ⟨rfl, fun W hW => (by have h := HP3.out W; go_simp; try rfl)⟩) UF.out ?_
                  try simp only [Act.put, List.setIfInBounds_toArray, List.set_cons_zero, List.set_cons_succ]
                  have _hI : True := trivial
                  clear _hI
                  refine takeH (i := 17) rfl (by kernel_rfl) (by kernel_rfl) (by kernel_rfl) (fun _ _ _ h => h) (yields_load_w (by rfl) 28 _ rfl g15 rfl 28 sw (fun W hW => (W15.out).fr0 hW) _ Try.underlying28 rfl HIW.out) UF.out ?_
                  try simp only [Act.put, List.setIfInBounds_toArray, List.set_cons_zero, List.set_cons_succ]
                  have _hI : True := trivial
                  clear _hI
                  refine wpAnyH_ready (rs := [15]) (by kernel_rfl) (by simp) (consG rfl rfl (fun K hK => ?_) AllReadyH.nil)
                  have _hI : True := trivial
                  clear _hI
                  refine wp_built_blk 26 27 _ _ rfl #[.slice Av cu cv, .slice A2 n2 c2, .slice A3 (nb - mo) (cv - mo)] (fun W => by go_simp; try rfl) ?_
                  intro gb Wn hB hf hg
                  replace UF := Lib.hid (Fr0.trans UF.out hf)
                  have GB := Lib.hid hB
                  clear hB hf hg
                  refine hK.out _ _ UF.out ?_
                  clear hK
                  try simp only [Act.put, List.setIfInBounds_toArray, List.set_cons_zero, List.set_cons_succ]
                  have _hI : True := trivial
                  clear _hI
                  refine wpAnyH_ready (rs := [16]) (by kernel_rfl) (by simp) (consG rfl rfl (fun K hK => ?_) AllReadyH.nil)
                  have _hI : True := trivial
                  clear _hI
                  go_simp
                  refine (HS3'.out _ _ UF.out GB.out).mono ?_
                  rintro e Wn ⟨rfl, hf⟩
                  replace UF := Lib.hid (Fr0.trans UF.out hf)
                  clear hf
                  refine hK.out _ _ UF.out ?_
                  clear hK
                  try simp only [Act.put, List.setIfInBounds_toArray, List.set_cons_zero, List.set_cons_succ]
                  have _hI : True := trivial
                  clear _hI
                  refine takeH (i := 18) rfl (by kernel_rfl) (by kernel_rfl) (by kernel_rfl) (fun _ _ _ h => h) (v := .bool true) (.inl ⟨rfl, fun W hW => bin_run2 rfl rfl rfl (dig_guard _ _ _ _ _ W) (HE.out W)⟩) UF.out ?_
                  try simp only [Act.put, List.setIfInBounds_toArray, List.set_cons_zero, List.set_cons_succ]
                  have _hI : True := trivial
                  clear _hI
                  refine takeH (i := 19) rfl (by kernel_rfl) (by kernel_rfl) (by kernel_rfl) (fun _ _ _ h => h) (.inl ⟨rfl, fun W hW => (by go_simp; try rfl)⟩) UF.out ?_
                  try simp only [Act.put, List.setIfInBounds_toArray, List.set_cons_zero, List.set_cons_succ]
                  have _hI : True := trivial
                  clear _hI
                  refine takeH (i := 20) rfl (by kernel_rfl) (by kernel_rfl) (by kernel_rfl) (fun _ _ _ h => h) (.inl ⟨rfl, fun W hW => (by go_simp; try rfl)⟩) UF.out ?_
                  try simp only [Act.put, List.setIfInBounds_toArray, List.set_cons_zero, List.set_cons_succ]
                  have _hI : True := trivial
                  clear _hI
                  refine takeH (i := 21) rfl (by kernel_rfl) (by kernel_rfl) (by kernel_rfl) (fun _ _ _ h => h) (.inl ⟨rfl, fun W hW => (by go_simp; try rfl)⟩) UF.out ?_
                  try simp only [Act.put, List.setIfInBounds_toArray, List.set_cons_zero, List.set_cons_succ]
                  have _hI : True := trivial
                  clear _hI
                  refine takeH (i := 23) rfl (by kernel_rfl) (by kernel_rfl) (by kernel_rfl) (fun _ _ _ h => h) (.inl ⟨rfl, fun W hW => (by go_simp; try rfl)⟩) UF.out ?_
                  try simp only [Act.put, List.setIfInBounds_toArray, List.set_cons_zero, List.set_cons_succ]
                  have _hI : True := trivial
                  clear _hI
                  refine takeH (i := 24) rfl (by kernel_rfl) (by kernel_rfl) (by kernel_rfl) (fun _ _ _ h => h) (.inl ⟨rfl, fun W hW => (by go_simp; try rfl)⟩) UF.out ?_
                  try simp only [Act.put, List.setIfInBounds_toArray, List.set_cons_zero, List.set_cons_succ]
                  have _hI : True := trivial
                  clear _hI
                  refine wpAnyH_ready (rs := [22]) (by kernel_rfl) (by simp) (consG rfl rfl (fun K hK => ?_) AllReadyH.nil)
                  have _hI : True := trivial
                  clear _hI
                  go_simp
                  refine (HLN'.out _ UF.out).mono ?_
                  rintro e Wn ⟨rfl, rfl⟩
                  refine hK.out _ _ UF.out ?_
                  clear hK
                  try simp only [Act.put, List.setIfInBounds_toArray, List.set_cons_zero, List.set_cons_succ]
                  have _hI : True := trivial
                  clear _hI
                  refine takeH (i := 25) rfl (by kernel_rfl) (by kernel_rfl) (by kernel_rfl) (fun _ _ _ h => h) (v := .bool true) (.inl ⟨rfl, fun W hW => (by go_simp; try rfl)⟩) UF.out ?_
                  try simp only [Act.put, List.setIfInBounds_toArray, List.set_cons_zero, List.set_cons_succ]
                  have _hI : True := trivial
                  clear _hI
                  refine takeH (i := 26) rfl (by kernel_rfl) (by kernel_rfl) (by kernel_rfl) (fun _ _ _ h => h) (.inl ⟨rfl, fun W hW => (by go_simp; try rfl)⟩) UF.out ?_
                  try simp only [Act.put, List.setIfInBounds_toArray, List.set_cons_zero, List.set_cons_succ]
                  have _hI : True := trivial
                  clear _hI
                  refine takeH (i := 27) rfl (by kernel_rfl) (by kernel_rfl) (by kernel_rfl) (fun _ _ _ h => h) (.inl ⟨rfl, fun W hW => (by go_simp; try rfl)⟩) UF.out ?_
                  try simp only [Act.put, List.setIfInBounds_toArray, List.set_cons_zero, List.set_cons_succ]
                  refine wpAnyH_done (by kernel_rfl) ?_ _
                  go_wp2_with fail
                  go_ret
                  exact ⟨rfl, Fr0.trans FA.out UF.out⟩
set_option maxHeartbeats 1000000 in
set_option maxRecDepth 100000 in
theorem pieces_out {v : Value} {b : List UInt8} {w : World} (h : RdB w v b) (n m : Int) (ho : ¬ ((b.length : Int) ≤ 2000 ∧ 0 ≤ n ∧ n ≤ b.length ∧ n ≤ m ∧ m ≤ b.length)) : Calls Try.prog 8 #[v, .int .i64 n, .int .i64 m] w fun e w' => e = .returned (.bool true) ∧ Fr0 w w' := by
  obtain ⟨Av, cv, rfl, -, -, -⟩ := h.form
  have HKN := Lib.hid (fun W => known02_any W)
  obtain ⟨nb, hnb⟩ : ∃ n, n = b.length := ⟨_, rfl⟩
  rw [← hnb] at ho ⊢
  clear h hnb
  rcases (by omega : 2000 < (nb : Int) ∨ ((nb : Int) ≤ 2000 ∧ n < 0) ∨ ((nb : Int) ≤ 2000 ∧ 0 ≤ n ∧ (nb : Int) < n) ∨ ((nb : Int) ≤ 2000 ∧ 0 ≤ n ∧ n ≤ (nb : Int) ∧ m < n) ∨ ((nb : Int) ≤ 2000 ∧ 0 ≤ n ∧ n ≤ (nb : Int) ∧ n ≤ m ∧ (nb : Int) < m)) with i1 | ⟨i1, i2⟩ | ⟨i1, i2, i3⟩ | ⟨i1, i2, i3, i4⟩ | ⟨i1, i2, i3, i4, i5⟩
  all_goals
    clear ho
    go_enter Try.func8, Try.ntmps8
    go_wp2_with (go_at_call 13; refine (HKN.out _).mono ?_; rintro e w1 ⟨rfl, hf⟩; have F1 := Lib.hid hf; clear hf)
    go_ret
    exact ⟨rfl, F1.out⟩
theorem pieces_any (n m : Int) {v : Value} {b : List UInt8} {w : World} (h : RdB w v b) : Calls Try.prog 8 #[v, .int .i64 n, .int .i64 m] w fun e w' => e = .returned (.bool true) ∧ Fr0 w w' := by
  by_cases hc : (b.length : Int) ≤ 2000 ∧ 0 ≤ n ∧ n ≤ b.length ∧ n ≤ m ∧ m ≤ b.length
  · obtain ⟨cu, rfl⟩ : ∃ cu : Nat, n = cu := ⟨n.toNat, by omega⟩
    obtain ⟨mo, rfl⟩ : ∃ mo : Nat, m = mo := ⟨m.toNat, by omega⟩
    exact pieces_ok h (by omega) (by omega) (by omega)
  · exact pieces_out h n m hc
namespace ShaPieces
open Go.ChangeShapes Go.WideShapes Go.ChangeAt
open Go.ChangeMaps (open_string shut_string)

theorem own : ownKnob Try.prog.godebug = none := by kernel_rfl
theorem laidOut : laidOutB Try.prog = true := by kernel_rfl

set_option maxRecDepth 100000 in
theorem lifted (os : Os) (started : os.Started) (H : Type) (enc : TypeId × Value → H) :
    ReturnsInHanded {} Try.checked os 8 .any (Rows.shaPiecesSpec.pre6 enc Try.prog Try.f8 Rows.shaPiecesRow.domain false) (Rows.shaPiecesSpec.post enc Try.prog Try.f8 false true false false) := by
  refine returnsInHanded_of_change (C := Try.checked) own started (by kernel_rfl) Try.func8
    (ChangeSpec.witness6 (enc := enc) (C := Try.checked) false ⟨#[], #[.slice none 0 0, .int .i64 0, .int .i64 0], []⟩ 8 (by kernel_rfl) (by kernel_rfl) (by kernel_rfl) (by kernel_rfl)) ?_
  intro W base args ds gs before hval0 hW hcnd _
  have hval : ∀ (j : Nat) t v, Try.f8.params[j]? = some t → args[j]? = some v → Value.okWide Try.prog W .any base t v := hval0
  have hW' := hW
  obtain ⟨p, q, hA0, hV, rfl, hfz, hnd⟩ := hW
  have hA : DataW.TrodAll enc Try.prog W 0 (fun _ => true) true Try.f8.params.toList args.toList ds p := hA0
  rw [Try.params8] at hA hval
  obtain ⟨v0, vs0, d0', ds0, p0, q0, hargs, rfl, rfl, h0, r0⟩ := trodAll_cons hA
  obtain ⟨v1, vs1, d1', ds1, p1, q1, rfl, rfl, rfl, h1, r1⟩ := trodAll_cons r0
  obtain ⟨v2, vs2, d2', ds2, p2, q2, rfl, rfl, rfl, h2, r2⟩ := trodAll_cons r1
  obtain ⟨rfl, rfl, rfl⟩ := trodAll_nil r2
  obtain rfl : args = #[v0, v1, v2] := by cases args; simp_all
  obtain ⟨rfl, rfl⟩ := trodVars_none hV
  have k0 := h0
  have lt0 : ∀ x ∈ p0, x.block < W.heap.size := by obtain ⟨m, hm⟩ := k0; exact DataW.trod_lt m _ _ _ hm
  obtain ⟨A0, n0, c0, rfl⟩ := okWide_slice Try.underlying27 (hval 0 27 v0 rfl rfl)
  obtain ⟨fuel0, hf0⟩ := h0
  obtain ⟨d0, hy0⟩ := arg_bytes Try.underlying27 Try.underlying5 (by kernel_rfl) hf0
  obtain ⟨n1, rfl, rfl, rfl, hn1⟩ := open_int Try.underlying3 (hval 1 3 v1 rfl rfl) h1
  have hm1 := lit_i64 hn1
  obtain ⟨n2, rfl, rfl, rfl, hn2⟩ := open_int Try.underlying3 (hval 2 3 v2 rfl rfl) h2
  have hm2 := lit_i64 hn2
  clear hA0 hval0
  refine (pieces_any n1 n2 hy0).mono fun e W' ⟨he, hfr⟩ => ?_
  have bel : Below W.heap.size W W' := Fr0.below hfr
  subst he
  exact ⟨_, rfl, _, _, _, [], _, [], hW', trodAll_mk1 (shut_bool Try.underlying4 _), (trodAll_cons_mk (Below.trod laidOut (by kernel_rfl) (of_decide_eq_true (by kernel_rfl)) k0 bel lt0) (trodAll_cons_mk (shut_int Try.underlying3 hn1) (trodAll_cons_mk (shut_int Try.underlying3 hn2) trodAll_mk0))), rfl, bel.frame _, fun h => by cases h⟩

theorem over : Rows.shaPiecesRow.holds Try.pinned (OpenSpec.ofChange Rows.shaPiecesSpec) :=
  OpenClaim.holds_of_wide 8 Try.f8 rfl rfl rfl rfl rfl rfl rfl ⟨rfl, rfl, rfl, rfl, rfl⟩ rfl rfl rfl rfl rfl (by kernel_rfl) Try.func8 (by kernel_rfl)
    (of_decide_eq_true (by kernel_rfl)) (by unfold Func.isWrapper; first | (rw [if_pos (by decide +kernel)]; kernel_rfl) | (rw [if_neg (by decide +kernel)]; exact ⟨rfl, rfl⟩))
    (fun os started H enc _ => lifted os started H enc)

theorem proved : Rows.ShaPiecesSaid := over
#print axioms proved
end ShaPieces
end Go.Proofs.Ytinajkhnfebgcaa
