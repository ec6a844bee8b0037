/- The program's tables of all bytes swapped, and back. Conditions stand in the statements. -/
import Derived.Test.YtgcjbbliaelkcaaAesRSw
import Derived.BigRegion
import Derived.Test.YtgcjbbliaelkcaaStepsG
import Derived.Test.YtgcjbbliaelkcaaStepsW
set_option linter.unusedSimpArgs false
set_option linter.unusedVariables false
namespace Go.Proofs.Ytgcjbbliaelkcaa
open Go.RowKit

theorem rotU_bits (y : UInt8) : Value.int .u8 (bits .or .u8 ((y.toNat : Int) * 2 % 256) ((y.toNat : Int) / 128)) = .int .u8 ((rotU y).toNat : Int) := by
  have h1 : ((y.toNat : Int) * 2 % 256) = ((UInt8.ofNat (y.toNat * 2)).toNat : Int) := by rw [UInt8.toNat_ofNat']; omega
  have h2 : ((y.toNat : Int) / 128) = ((UInt8.ofNat (y.toNat / 128)).toNat : Int) := by have := y.toNat_lt; rw [UInt8.toNat_ofNat']; omega
  rw [h1, h2, orU]
  rfl
theorem rotU_int (y : UInt8) : bits .or .u8 ((y.toNat : Int) * 2 % 256) ((y.toNat : Int) / 128) = ((rotU y).toNat : Int) := by injection rotU_bits y
theorem xtU_int (a : UInt8) : bits .xor .u8 ((a.toNat : Int) * 2 % 256) ((a.toNat : Int) / 128 * 27) = ((xtU a).toNat : Int) := by injection xtU_bits a
theorem sw_results {fn : Func} {p q : Tmp} (h : fn.results = #[.cell p 138, .cell q 138]) {tmps : Array Value} {W : World} {g1 g2 : Nat} {cs ct : Array Value} (h1 : Blk W g1 cs 138) (h2 : Blk W g2 ct 138)
    (i1 : (Try.prog.info? 138).map (·.size) = some cs.size) (i2 : (Try.prog.info? 138).map (·.size) = some ct.size) (e1 : tmps.getD p undef = .pointer (some ⟨g1, 0, none⟩)) (e2 : tmps.getD q undef = .pointer (some ⟨g2, 0, none⟩)) :
    (results fn tmps).run Try.prog W = .ok (.tuple #[.agg cs, .agg ct]) W := by
  have hl1 := run_loadVar_row (P := Try.prog) W g1 138 138 cs (0, 0) _ h1 Try.underlying138 rfl i1
  have hl2 := run_loadVar_row (P := Try.prog) W g2 138 138 ct (0, 0) _ h2 Try.underlying138 rfl i2
  simp only [Array.getD_eq_getD_getElem?] at e1 e2
  simp only [results, h]
  simp [Sem.run_bind, Result.andThen, e1, e2, asAddr, hl1, hl2]
set_option maxHeartbeats 4000000 in
set_option maxRecDepth 100000 in
theorem swaps_any (w : World) : Calls Try.prog 73 #[] w fun e w' => e = .returned (.tuple #[.agg (byts sbox).toArray, .agg (byts sback).toArray]) ∧ Fr0 w w' := by
  have HL := Lib.hid swS_len
  have HSB := Lib.hid (show sbox = (swS 255).2.2.1.set 0 99 from rfl)
  have HSK := Lib.hid (show sback = (swS 255).2.2.2.set 99 0 from rfl)
  have H0 := Lib.hid (show swS 0 = (1, 1, List.replicate 256 0, List.replicate 256 0) from rfl)
  have HS := Lib.hid (fun k => show swS (k + 1) = ((swS k).1 ^^^ xtU (swS k).1, tms (swS k).2.1 246, (swS k).2.2.1.set (swS k).1.toNat (sxU (swS k).2.1), (swS k).2.2.2.set (sxU (swS k).2.1).toNat (swS k).1) from rfl)
  have HB1 := Lib.hid sbox_len
  have HB2 := Lib.hid sback_len
  obtain ⟨T, hT⟩ : ∃ T, T = sbox := ⟨_, rfl⟩
  obtain ⟨T2, hT2⟩ : ∃ T, T = sback := ⟨_, rfl⟩
  rw [← hT] at HSB HB1 ⊢
  rw [← hT2] at HSK HB2 ⊢
  clear hT hT2
  obtain ⟨S, hS⟩ : ∃ S, S = swS := ⟨_, rfl⟩
  rw [← hS] at HL HSB HSK H0 HS
  clear hS
  obtain ⟨z, hz⟩ : ∃ z, z = (byts (List.replicate 256 0)).toArray := ⟨_, rfl⟩
  have HRUN := Lib.hid (show ∀ W : World, (Instr.alloc 138 true (.tuple #[])).run Try.prog W = .ok (.pointer (some ⟨W.heap.size, 0, none⟩)) (W.alloc (.cells z 138)) from by rw [hz]; exact fun _ => by kernel_rfl)
  have HZ := Lib.hid hz
  clear hz
  go_enter Try.func73, Try.ntmps73
  go_upto_region 3 with (first
    | (have _q := B1; refine list_alloc_blk rfl 138 rfl z HRUN.out ?_; intro g2 w2 hB hF hl; have C2 := Lib.hid hB; have B2 := Lib.hid ((B1.out).fr0 hF); have F2 := Lib.hid (Fr0.trans F1.out hF); have L2 := Lib.hid hl; clear hB hF hl)
    | (refine list_alloc_blk rfl 138 rfl z HRUN.out ?_; intro g1 w1 hB hF hl; have B1 := Lib.hid hB; have F1 := Lib.hid hF; have L1 := Lib.hid hl; clear hB hF hl))
  have hl2 := L2.out
  have hl1 := (F1.out).size
  have HNE := Lib.hid (show g1 ≠ g2 by have := (B1.out).lt; omega)
  go_loopw [2, 3, 6] (fun v2 v3 v6 wr => ∃ k : Nat, k ≤ 255 ∧ v6 = .int .i64 (k : Int) ∧ v2 = .int .u8 ((S k).1.toNat : Int) ∧ v3 = .int .u8 ((S k).2.1.toNat : Int) ∧ Blk wr g1 (byts (S k).2.2.1).toArray 138 ∧ Blk wr g2 (byts (S k).2.2.2).toArray 138 ∧ Fr0 w wr) (fun _ _ v6 _ => 255 - (intOf v6).toNat)
  case atStart => exact ⟨0, by omega, rfl, by rw [H0.out]; rfl, by rw [H0.out]; rfl, by have h := B2.out; rw [HZ.out] at h; rw [H0.out]; exact h, by have h := C2.out; rw [HZ.out] at h; rw [H0.out]; exact h, F2.out⟩
  case round =>
    obtain ⟨k, hk, rfl, rfl, rfl, hB, hC, hF⟩ := hrel
    obtain ⟨l1, l2⟩ := HL.out k
    have HSk := Lib.hid (HS.out k)
    obtain ⟨a, ha⟩ : ∃ a, a = (S k).1 := ⟨_, rfl⟩
    obtain ⟨b, hb⟩ : ∃ a, a = (S k).2.1 := ⟨_, rfl⟩
    obtain ⟨A, hA⟩ : ∃ a, a = (S k).2.2.1 := ⟨_, rfl⟩
    obtain ⟨B, hBB⟩ : ∃ a, a = (S k).2.2.2 := ⟨_, rfl⟩
    rw [← ha, ← hb, ← hA, ← hBB] at HSk
    rw [← hA] at l1 hB
    rw [← hBB] at l2 hC
    by_cases hlt : k < 255
    · rw [← ha, ← hb]
      have KB := Lib.hid hB
      have KC := Lib.hid hC
      have KF := Lib.hid hF
      have L1' := Lib.hid l1
      have L2' := Lib.hid l2
      have x1 := xorU b 99
      have HX := Lib.hid (show sxU b = (sxA 4 (b ^^^ 99, b)).1 from rfl)
      have hX0 := Lib.hid (show sxA 0 (b ^^^ 99, b) = (b ^^^ 99, b) from rfl)
      have hXS := Lib.hid (fun i => show sxA (i + 1) (b ^^^ 99, b) = ((sxA i (b ^^^ 99, b)).1 ^^^ rotU (sxA i (b ^^^ 99, b)).2, rotU (sxA i (b ^^^ 99, b)).2) from rfl)
      have x1' : bits .xor .u8 (b.toNat : Int) 99 = ((b ^^^ 99).toNat : Int) := x1
      obtain ⟨x0, hx0⟩ : ∃ x, x = b ^^^ 99 := ⟨_, rfl⟩
      rw [← hx0] at x1' HX hX0 hXS
      obtain ⟨X, hXX⟩ : ∃ X, X = fun i => sxA i (x0, b) := ⟨_, rfl⟩
      have q4 : sxA 4 (x0, b) = X 4 := by rw [hXX]
      have q0 : sxA 0 (x0, b) = X 0 := by rw [hXX]
      have qs : ∀ i, X (i + 1) = ((X i).1 ^^^ rotU (X i).2, rotU (X i).2) := by intro i; rw [hXX]; exact hXS.out i
      rw [q4] at HX
      rw [q0] at hX0
      have QS := Lib.hid qs
      clear x1 hx0 hXX q4 q0 qs hXS ha hb hA hBB l1 l2 hB hC hF
      go_wp2_with fail
      go_loop [4, 5, 11] (fun v4 v5 v11 => ∃ i : Nat, i ≤ 4 ∧ v11 = .int .i64 (i : Int) ∧ v4 = .int .u8 ((X i).1.toNat : Int) ∧ v5 = .int .u8 ((X i).2.toNat : Int)) (fun _ _ v11 => 4 - (intOf v11).toNat)
      case atStart => exact ⟨0, by omega, rfl, by rw [hX0.out], by rw [hX0.out]⟩
      case round =>
        obtain ⟨i, hi, rfl, rfl, rfl⟩ := hrel
        by_cases hi4 : i < 4
        · have HQ := Lib.hid (QS.out i)
          obtain ⟨p, hp⟩ : ∃ p, p = (X i).1 := ⟨_, rfl⟩
          obtain ⟨y, hy⟩ : ∃ p, p = (X i).2 := ⟨_, rfl⟩
          rw [← hp, ← hy] at HQ ⊢
          have hyl := y.toNat_lt
          clear hp hy
          go_wp2_with fail
          go_round
          case rel => exact ⟨i + 1, by omega, by go_num, congrArg (Value.int .u8) (by rw [HQ.out, rotU_int, xorU]), congrArg (Value.int .u8) (by rw [HQ.out, rotU_int])⟩
          case measure => simp [intOf]; omega
        · obtain rfl : i = 4 := by omega
          have HT := Lib.hid (fun W => show Calls Try.prog 84 #[.int .u8 (b.toNat : Int), .int .u8 246] W (fun e w' => e = .returned (.int .u8 ((tms b 246).toNat : Int)) ∧ W = w') from times_any b 246 W)
          obtain ⟨x, hx⟩ : ∃ x, x = (X 4).1 := ⟨_, rfl⟩
          obtain ⟨y, hy⟩ : ∃ x, x = (X 4).2 := ⟨_, rfl⟩
          rw [← hx] at HX ⊢
          rw [← hy]
          have HXV := Lib.hid (HX.out)
          rw [HXV.out] at HSk
          obtain ⟨tb, htb⟩ : ∃ t, t = tms b 246 := ⟨_, rfl⟩
          rw [← htb] at HT HSk
          clear hx hy htb hi hi4 QS HX hX0 x1'
          have al := a.toNat_lt
          have xl := x.toNat_lt
          have c1 := (KB.out).u8 (i := a.toNat) (by rw [L1'.out]; exact al)
          have c2 := (KC.out).u8 (i := x.toNat) (by rw [L2'.out]; exact xl)
          have f1 := (KB.out).free a.toNat
          have f2 := (KC.out).free x.toNat
          have n1 := HNE.out
          have n2 := Ne.symm HNE.out
          have i0 : (0 : Int) ≤ (a.toNat : Int) := by omega
          have i1 : (a.toNat : Int) < 256 := by omega
          have i2 : (0 : Int) ≤ (x.toNat : Int) := by omega
          have i3 : (x.toNat : Int) < 256 := by omega
          go_wp2_with (go_at_call 84; refine (HT.out _).mono ?_; rintro e w' ⟨rfl, rfl⟩)
          go_roundw
          case rel => exact ⟨k + 1, by omega, by go_num, congrArg (Value.int .u8) (by rw [HSk.out, xtU_int, xorU]), by rw [HSk.out], by rw [HSk.out]; exact ((KB.out).put8 _ _).fr1 ((Fr1.refl g2 _).set _ _) n1, by rw [HSk.out]; exact ((KC.out).fr1 ((Fr1.refl g1 _).set _ _) n2).put8 _ _, Fr0.new (Fr0.new KF.out ((Fr1.refl g1 _).set _ _) L1.out) ((Fr1.refl g2 _).set _ _) (by have := L2.out; omega)⟩
          case measure => simp [intOf]; omega
    · obtain rfl : k = 255 := by omega
      rw [← ha, ← hb]
      have KB := Lib.hid hB
      have KC := Lib.hid hC
      have KF := Lib.hid hF
      have E1 := Lib.hid (show T = A.set 0 99 by rw [HSB.out, hA])
      have E2 := Lib.hid (show T2 = B.set 99 0 by rw [HSK.out, hBB])
      have hi8 : (Try.prog.info? 138).map (·.size) = some (byts T).toArray.size := by rw [byts_size, HB1.out]; kernel_rfl
      have hz8 : (byts T).toArray.size = (byts T).toArray.size := rfl
      have ha8 := byts_all T
      have hi9 : (Try.prog.info? 138).map (·.size) = some (byts T2).toArray.size := by rw [byts_size, HB2.out]; kernel_rfl
      have ha9 := byts_all T2
      have c1 := hB.u8 (i := 0) (by rw [l1]; decide)
      have c2 := hC.u8 (i := 99) (by rw [l2]; decide)
      have f1 := hB.free 0
      have f2 := hC.free 99
      have n1 := HNE.out
      have n2 := Ne.symm HNE.out
      have HW1 := Lib.hid (show Blk ((wr.setCell ⟨g1, 0, none⟩ (.int .u8 99)).setCell ⟨g2, 99, none⟩ (.int .u8 0)) g1 (byts T).toArray 138 by rw [E1.out]; exact (hB.put8 0 99).fr1 ((Fr1.refl g2 _).set _ _) n1)
      have HW2 := Lib.hid (show Blk ((wr.setCell ⟨g1, 0, none⟩ (.int .u8 99)).setCell ⟨g2, 99, none⟩ (.int .u8 0)) g2 (byts T2).toArray 138 by rw [E2.out]; exact (hC.fr1 ((Fr1.refl g1 _).set _ _) n2).put8 99 0)
      have HW3 := Lib.hid (show Fr0 w ((wr.setCell ⟨g1, 0, none⟩ (.int .u8 99)).setCell ⟨g2, 99, none⟩ (.int .u8 0)) from Fr0.new (Fr0.new hF ((Fr1.refl g1 _).set _ _) L1.out) ((Fr1.refl g2 _).set _ _) (by have := L2.out; omega))
      obtain ⟨wf, hwf⟩ : ∃ W, W = (wr.setCell ⟨g1, 0, none⟩ (.int .u8 99)).setCell ⟨g2, 99, none⟩ (.int .u8 0) := ⟨_, rfl⟩
      rw [← hwf] at HW1 HW2 HW3
      obtain ⟨cs, hcs⟩ : ∃ c, c = (byts T).toArray := ⟨_, rfl⟩
      obtain ⟨ct, hct⟩ : ∃ c, c = (byts T2).toArray := ⟨_, rfl⟩
      rw [← hcs] at HW1 hi8 hz8 ha8
      rw [← hct] at HW2 hi9 ha9
      have HI := Lib.hid hi8
      have HI2 := Lib.hid hi9
      have HCS := Lib.hid hcs
      have HCT := Lib.hid hct
      have HWF := Lib.hid hwf
      clear hB hC hF hi8 hi9 hz8 hcs hct hwf ha hb hA hBB HSk l1 l2
      go_upto_region 15 with (fail)
      rw [← HWF.out]
      have hS0 : Blk wf.drew g1 cs 138 ∧ Blk wf.drew g2 ct 138 ∧ Fr0 w wf.drew := ⟨(HW1.out).drew, (HW2.out).drew, (HW3.out).drew⟩
      refine wp_region_held_drew (S := (fun W => Blk W g1 cs 138 ∧ Blk W g2 ct 138 ∧ Fr0 w W)) (by kernel_rfl) hS0 (fun hHeld => ?_)
      generalize wf.drew = wq at *
      have _hI : True := trivial
      clear _hI
      refine takeH (i := 0) rfl (by kernel_rfl) (by kernel_rfl) (by kernel_rfl) (fun _ _ _ h => h) (yields_load_blk rfl 138 _ rfl g1 rfl 138 cs (fun W hW => hW.1) _ Try.underlying138 rfl HI.out) hS0 ?_
      try simp only [Act.put, List.setIfInBounds_toArray, List.set_cons_zero, List.set_cons_succ]
      have _hI : True := trivial
      clear _hI
      refine takeH (i := 1) rfl (by kernel_rfl) (by kernel_rfl) (by kernel_rfl) (fun _ _ _ h => h) (yields_load_blk rfl 138 _ rfl g2 rfl 138 ct (fun W hW => hW.2.1) _ Try.underlying138 rfl HI2.out) hS0 ?_
      try simp only [Act.put, List.setIfInBounds_toArray, List.set_cons_zero, List.set_cons_succ]
      have _hI : True := trivial
      clear _hI
      refine wpAnyH_ready (rs := [2]) (by kernel_rfl) (by simp) (consG rfl rfl (fun K hK => ?_) AllReadyH.nil)
      have _hI : True := trivial
      clear _hI
      refine wp_store_blk 138 (.tmp 0) (.tmp 41) rfl g1 cs rfl rfl 138 cs (hHeld).1 HI.out rfl ha8 ?_
      intro Wn1 hB hF
      have s1a := And.intro hB (And.intro ((hHeld).2.1.fr1 hF n2) (Fr0.new (hHeld).2.2 hF L1.out))
      clear hB hF
      refine hK.out _ _ s1a ?_
      clear hK
      try simp only [Act.put, List.setIfInBounds_toArray, List.set_cons_zero, List.set_cons_succ]
      have _hI : True := trivial
      clear _hI
      refine wpAnyH_ready (rs := [3]) (by kernel_rfl) (by simp) (consG rfl rfl (fun K hK => ?_) AllReadyH.nil)
      have _hI : True := trivial
      clear _hI
      refine wp_store_blk 138 (.tmp 1) (.tmp 42) rfl g2 ct rfl rfl 138 ct (s1a).2.1 HI2.out rfl ha9 ?_
      intro Wn2 hB hF
      have s2b := And.intro ((s1a).1.fr1 hF n1) (And.intro hB (Fr0.new (s1a).2.2 hF (by have := L2.out; omega)))
      clear hB hF
      refine hK.out _ _ s2b ?_
      clear hK
      try simp only [Act.put, List.setIfInBounds_toArray, List.set_cons_zero, List.set_cons_succ]
      refine wpAnyH_done (by kernel_rfl) ?_ _
      go_wp2_with fail
      exact bodyPost_ret (v := .tuple #[.agg cs, .agg ct]) (sw_results rfl (s2b).1 (s2b).2.1 HI.out HI2.out rfl rfl) rfl ⟨by rw [HCS.out, HCT.out], (s2b).2.2⟩
end Go.Proofs.Ytgcjbbliaelkcaa
