/- aes.mix: a block whose columns are mixed by four numbers. Conditions stand in the statements. -/
import Derived.Test.YtgcjbbliaelkcaaAesAdd
import Derived.StillTactics
set_option linter.unusedSimpArgs false
set_option linter.unusedVariables false
namespace Go.Proofs.Ytgcjbbliaelkcaa
open Go.RowKit

def mxA (b c : List UInt8) (i : Nat) : Nat → UInt8
  | 0 => 0
  | k + 1 => mxA b c i k ^^^ tms (c.getD k 0) (b.getD (i / 4 * 4 + (i + k) % 4) 0)
def mxC (b c : List UInt8) : List UInt8 := (List.range 16).map fun i => mxA b c i 4
theorem mxC_mxL (b : List UInt8) : mxC b [2, 3, 1, 1] = mxL b := by
  unfold mxC mxL
  apply List.map_congr_left
  intro i _
  simp [mxA, mxB, tms1]
theorem fillU_set0 {T : List UInt8} {n i : Nat} (hT : T.length = n) (h : i < n) : (fillU T n i).set i 0 = fillU T n i := by
  unfold fillU
  have h1 : (T.take i).length = i := by rw [List.length_take]; omega
  rw [List.set_append_right _ _ (by omega), h1, Nat.sub_self, show n - i = (n - (i + 1)) + 1 by omega, List.replicate_succ, List.set_cons_zero]
theorem times_still (a b : UInt8) (W : World) : Calls Try.prog 84 #[.int .u8 (a.toNat : Int), .int .u8 (b.toNat : Int)] W fun e w' => e = .returned (.int .u8 ((tms a b).toNat : Int)) ∧ w' = W := (times_any a b W).mono fun _ _ h => ⟨h.1, h.2.symm⟩
theorem run_index_arr {P : Program} {w : World} {t e : TypeId} {n : Nat} {k : IntKind} {cs : Array Value} {i : Nat} {v : Value} (h : P.underlying t = some (.array n e)) (hi : i < n) (hs : ∀ w, (sizeOf e).run P w = .ok 1 w) (hg : ∀ w, (isAgg e).run P w = .ok false w) (hv : cs[i]? = some v) :
    (Instr.index t (.agg cs) (.int k (i : Int))).run P w = .ok v w := by
  have hn : (0 ≤ (i : Int) ∧ (i : Int) < (n : Int)) := by omega
  simp [Instr.index, run_underlying h, asIntOf, hn, go_sem]
  rw [if_pos hi, hs, Result.andThen_ok, hg, Result.andThen_ok, if_neg (by simp), Nat.mul_one, hv]
  rfl
theorem list_index {P : Program} {ops : Array Oper} {o : Oper} {rest : List Oper} {a : Act} {w : World} {Q : Exit → Act → World → Prop} (hgd : o.guard = none) (t : TypeId) (x y : Operand) (ho : o.op = .index t x y) {k : IntKind} {cs : Array Value} {i n : Nat} {e : TypeId} (hx : a.eval x = .agg cs) (hy : a.eval y = .int k (i : Int))
    (h : P.underlying t = some (.array n e)) (hi : i < n) (hs : ∀ w, (sizeOf e).run P w = .ok 1 w) (hg : ∀ w, (isAgg e).run P w = .ok false w) {v : Value} (hv : cs[i]? = some v) (hk : wpList P ops Q rest (a.put o.dst v) w) : wpList P ops Q (o :: rest) a w :=
  list_val hgd v (by unfold execOp; simp only [ho, hx, hy, Sem.run_bind, run_index_arr h hi hs hg hv, Result.andThen_ok]; rfl) hk
set_option maxHeartbeats 4000000 in
set_option maxRecDepth 10000 in
theorem amix_any {b c : List UInt8} {w : World} (hb : b.length = 16) (hc : c.length = 4) : Calls Try.prog 77 #[.agg (byts b).toArray, .agg (byts c).toArray] w fun e w' => e = .returned (.agg (byts (mxC b c)).toArray) ∧ Fr0 w w' := by
  have TL := Lib.hid (show (mxC b c).length = 16 from map16_len _)
  have TA := Lib.hid (fun i (h : i < 16) => show (mxC b c).getD i 0 = mxA b c i 4 from map16_at _ h)
  have MA := Lib.hid (fun i k => show mxA b c i (k + 1) = mxA b c i k ^^^ tms (c.getD k 0) (b.getD (i / 4 * 4 + (i + k) % 4) 0) from rfl)
  have M0 := Lib.hid (fun i => show mxA b c i 0 = 0 from rfl)
  have B0 := Lib.hid (Blk.new w (byts b).toArray 22)
  have R0 := Lib.hid (show Blk ((w.alloc (.cells (byts b).toArray 22)).alloc (.cells (byts c).toArray 146)) (w.heap.size + 1) (byts c).toArray 146 by have := Blk.new (w.alloc (.cells (byts b).toArray 22)) (byts c).toArray 146; simpa using this)
  have HI4 := Lib.hid (show (Try.prog.info? 146).map (·.size) = some (byts c).toArray.size by rw [byts_size, hc]; kernel_rfl)
  have HI := Lib.hid (a16_info (TL.out))
  have HZ := Lib.hid (z16_size (TL.out))
  have ha8 := byts_all (mxC b c)
  have HBL := Lib.hid hb
  have HCL := Lib.hid hc
  have HCA := Lib.hid (fun k (h : k < 4) => byts_getD c k (by rw [hc]; exact h))
  have HCZ := Lib.hid (show (byts c).toArray.size = 4 by rw [byts_size, hc])
  have HRUN := Lib.hid (fun W => z16_run W)
  obtain ⟨T, hT⟩ : ∃ T, T = mxC b c := ⟨_, rfl⟩
  obtain ⟨M, hM⟩ : ∃ T, T = mxA b c := ⟨_, rfl⟩
  obtain ⟨z, hz⟩ : ∃ z, z = z16A := ⟨_, rfl⟩
  obtain ⟨cb, hcb⟩ : ∃ c, c = (byts b).toArray := ⟨_, rfl⟩
  obtain ⟨cc, hcc⟩ : ∃ q, q = (byts c).toArray := ⟨_, rfl⟩
  rw [← hM] at TA MA M0
  rw [← hT] at TL TA ha8 HI HZ ⊢
  have HZZ := Lib.hid (hz.trans (show z16A = (byts (List.replicate 16 0)).toArray from rfl))
  rw [← hz] at HRUN HZ
  rw [← hcb] at B0 R0 ⊢
  rw [← hcc] at R0 HI4 HCA HCZ ⊢
  have HCB := Lib.hid hcb
  clear hT hz hcb hb hcc hc hM
  go_enter Try.func77, Try.ntmps77
  go_upto_region 3 with (first
    | (have _q := Z4; refine list_alloc_blk rfl 22 rfl z HRUN.out ?_; intro g7 w7 hB hF hl; have Z7 := Lib.hid hB; have F7 := Lib.hid hF; have L7 := Lib.hid hl; clear hB hF hl)
    | (refine list_alloc_blk rfl 22 rfl z HRUN.out ?_; intro g4 w4 hB hF hl; have Z4 := Lib.hid hB; have FF := Lib.hid hF; have L4 := Lib.hid hl; clear hB hF hl))
  have F4 := Lib.hid (show Fr0 w w7 from Fr0.trans (Fr0.trans (((Fr0.refl w).alloc _).alloc _) FF.out) F7.out)
  have B7 := Lib.hid ((((B0.out).alloc _).fr0 FF.out).fr0 F7.out)
  have R7 := Lib.hid (((R0.out).fr0 FF.out).fr0 F7.out)
  have hlt4 := (Z4.out).lt
  have Z4 := Lib.hid ((Z4.out).fr0 F7.out)
  have hg := L4.out
  have hg7 := L7.out
  have hs4 := (FF.out).size
  simp only [World.size_alloc] at hg hs4
  obtain ⟨gr, hgr⟩ : ∃ g, g = w.heap.size + 1 := ⟨_, rfl⟩
  obtain ⟨gb, hgb⟩ : ∃ g, g = w.heap.size := ⟨_, rfl⟩
  rw [← hgr] at R7
  rw [← hgb] at B7
  rw [← hgr, ← hgb]
  have n1 : gr ≠ g7 := by omega
  have n2 : gb ≠ g7 := by omega
  have n3 : g4 ≠ g7 := by omega
  have LG := Lib.hid (show w.heap.size ≤ g4 by omega)
  have L7' := Lib.hid (show w.heap.size ≤ g7 by omega)
  clear hgb hgr B0 R0 FF L4 hg F7 L7 hg7 hs4 hlt4 _q
  go_loopw [9] (fun v9 wr => ∃ i : Nat, i ≤ 16 ∧ v9 = .int .i64 (i : Int) ∧ Blk wr gb cb 22 ∧ Blk wr gr cc 146 ∧ Blk wr g7 (byts (fillU T 16 i)).toArray 22 ∧ Blk wr g4 z 22 ∧ Fr0 w wr) (fun v9 _ => 16 - (intOf v9).toNat)
  case atStart => exact ⟨0, by omega, rfl, B7.out, R7.out, by have h := Z7.out; rw [HZZ.out] at h; exact h, Z4.out, F4.out⟩
  case round =>
    obtain ⟨i, hi, rfl, hB, hS, hT, hZ, hF⟩ := hrel
    clear B7 R7 Z7 Z4 F4
    have KB := Lib.hid hB
    have KS := Lib.hid hS
    have KZ := Lib.hid hZ
    have KT := Lib.hid hT
    have HF := Lib.hid hF
    by_cases hlt : i < 16
    · have i0 : (0 : Int) ≤ (i : Int) := by omega
      have i1 : (i : Int) < 16 := by omega
      clear hB hS hT hZ hF
      go_wp2_with (refine list_load_blk rfl 146 _ rfl gr rfl 146 cc KS.out _ Try.underlying146 rfl HI4.out ?_)
      go_loopw [13] (fun v13 wx => ∃ k : Nat, k ≤ 4 ∧ v13 = .int .i64 (k : Int) ∧ Blk wx gb cb 22 ∧ Blk wx gr cc 146 ∧ Blk wx g7 (byts ((fillU T 16 i).set i (M i k))).toArray 22 ∧ Blk wx g4 z 22 ∧ Fr0 w wx) (fun v13 _ => 4 - (intOf v13).toNat)
      case atStart => exact ⟨0, by omega, rfl, KB.out, KS.out, by rw [M0.out, fillU_set0 TL.out hlt]; exact KT.out, KZ.out, HF.out⟩
      case round =>
        obtain ⟨k, hk, rfl, hB, hS, hT, hZ, hF⟩ := hrel
        clear KB KS KZ HF
        have KB := Lib.hid hB
        have KS := Lib.hid hS
        have KZ := Lib.hid hZ
        have HF := Lib.hid hF
        by_cases hlk : k < 4
        · have k0 : (0 : Int) ≤ (k : Int) := by omega
          have k1 : (k : Int) < 4 := by omega
          have hck := HCA.out k hlk
          have hcz := HCZ.out
          have hMk := MA.out i k
          obtain ⟨d, hd⟩ : ∃ d, d = i / 4 := ⟨_, rfl⟩
          obtain ⟨r, hr⟩ : ∃ d, d = (i + k) % 4 := ⟨_, rfl⟩
          obtain ⟨q, hq⟩ : ∃ d, d = i / 4 * 4 + (i + k) % 4 := ⟨_, rfl⟩
          rw [← hq] at hMk
          have hq16 : q < 16 := by omega
          have hB' := hB
          rw [HCB.out] at hB'
          have c0 := hB'.u8 (i := q) (by rw [HBL.out]; exact hq16)
          obtain ⟨y, hy⟩ : ∃ y, y = b.getD q 0 := ⟨_, rfl⟩
          obtain ⟨x, hx⟩ : ∃ y, y = c.getD k 0 := ⟨_, rfl⟩
          rw [← hy] at c0 hMk
          rw [← hx] at hck hMk
          obtain ⟨p, hp⟩ : ∃ p, p = M i k := ⟨_, rfl⟩
          have c1 := hT.u8 (i := i) (by rw [List.length_set, fillU_len TL.out hi]; exact hlt)
          rw [show ((fillU T 16 i).set i (M i k)).getD i 0 = p by rw [hp]; simp [List.getD, fillU_len TL.out hi, hlt]] at c1
          rw [← hp] at hMk
          have f1 := hT.free i
          have HTS := Lib.hid (fun W => times_still x y W)
          obtain ⟨u, hu⟩ : ∃ u, u = tms x y := ⟨_, rfl⟩
          rw [← hu] at HTS hMk
          have hxr := xorU p u
          rw [← hMk] at hxr
          have HN := Lib.hid (show Blk ((wr.setCell ⟨g7, i, none⟩ (.int .u8 ((M i (k + 1)).toNat : Int))).drew) g7 (byts ((fillU T 16 i).set i (M i (k + 1)))).toArray 22 by
            have h := hT.put8 i (M i (k + 1))
            rw [List.set_set] at h
            exact h.drew)
          have FS := Lib.hid (((Fr1.refl g7 wr).set i (.int .u8 ((M i (k + 1)).toNat : Int))).drew)
          obtain ⟨t, ht⟩ : ∃ t, t = M i (k + 1) := ⟨_, rfl⟩
          rw [← ht] at hxr HN FS
          have HTT := Lib.hid ht
          have q1 : (i : Int).tdiv 4 = (d : Int) := by rw [Int.tdiv_eq_ediv_of_nonneg (by omega)]; omega
          have q1' : (i : Int) / 4 = (d : Int) := by omega
          have q0 : IntKind.i64.wrap (d : Int) = (d : Int) := IntWalk.i64_in _ (by omega)
          have q2 : IntKind.i64.wrap ((d : Int) * 4) = (d : Int) * 4 := IntWalk.i64_in _ (by omega)
          have q3 : IntKind.i64.wrap ((i : Int) + (k : Int)) = (i : Int) + (k : Int) := IntWalk.i64_in _ (by omega)
          have q4 : ((i : Int) + (k : Int)).tmod 4 = (r : Int) := by rw [Int.tmod_eq_emod_of_nonneg (by omega)]; omega
          have q4' : ((i : Int) + (k : Int)) % 4 = (r : Int) := by omega
          have q5 : IntKind.i64.wrap ((d : Int) * 4 + (r : Int)) = (q : Int) := by rw [IntWalk.i64_in _ (by omega)]; omega
          have i2 : (0 : Int) ≤ (q : Int) := by omega
          have i3 : (q : Int) < 16 := by omega
          clear hd hr hq hB hS hT hZ hF hB' hy hx hp hMk hu ht
          go_wp2_with (refine list_index rfl 146 _ _ rfl (i := k) (n := 4) rfl rfl Try.underlying146 hlk (fun _ => by kernel_rfl) (fun _ => by kernel_rfl) hck ?_)
          refine wp_region_still_tail 17 (by kernel_rfl) (by kernel_rfl) ?_
          simp only [List.take_succ_cons, List.take_zero, List.drop_succ_cons, List.drop_zero]
          iterate 14 still_step
          still_call (HTS.out _)
          repeat still_step
          try refine wpStill_nil ?_
          go_wp2_with fail
          clear q0 q1 q1' q2 q3 q4 q4' q5 c0 c1 f1 hck hcz
          go_roundw
          case rel => exact ⟨k + 1, by omega, by go_num, (KB.out).fr1 FS.out n2, (KS.out).fr1 FS.out n1, by rw [← HTT.out]; exact HN.out, (KZ.out).fr1 FS.out n3, Fr0.new HF.out FS.out L7'.out⟩
          case measure => simp [intOf]; omega
        · obtain rfl : k = 4 := by omega
          have HN := Lib.hid (show Blk wr g7 (byts (fillU T 16 (i + 1))).toArray 22 by
            rw [← TA.out i hlt, fillU_set TL.out hlt] at hT; exact hT)
          clear hB hS hT hZ hF
          go_wp2_with fail
          go_roundw
          case rel => exact ⟨i + 1, by omega, by go_num, KB.out, KS.out, HN.out, KZ.out, HF.out⟩
          case measure => simp [intOf]; omega
    · obtain rfl : i = 16 := by omega
      rw [fillU_all TL.out] at hT
      have hi8 := HI.out
      have hz8 := HZ.out
      obtain ⟨cs, hcs⟩ : ∃ c, c = (byts T).toArray := ⟨_, rfl⟩
      rw [← hcs] at hT hi8 hz8 ha8
      have HCS := Lib.hid hcs
      have KT := Lib.hid hT
      have HI8 := Lib.hid hi8
      have HZ8 := Lib.hid hz8
      clear hB hS hT hZ hF hi8 hz8 hcs
      go_wp2_with (first
        | (refine list_load_blk rfl 22 _ rfl g7 rfl 22 cs KT.out _ Try.underlying22 rfl HI8.out ?_)
        | (refine list_store_blk rfl 22 _ _ rfl g4 cs rfl rfl 22 z KZ.out HI8.out HZ8.out ha8 ?_; intro w5 hB hF; have C5 := Lib.hid hB; have F5 := Lib.hid (Fr0.new HF.out hF LG.out); clear hB hF))
      refine bodyPost_ret (v := .agg cs) (results_cell_row rfl _ _ g4 22 cs (0, 0) _ rfl C5.out Try.underlying22 rfl HI8.out) rfl ⟨by rw [HCS.out], F5.out⟩
end Go.Proofs.Ytgcjbbliaelkcaa
