/- InputTwice: a stream that is cut, and cut again, is as one that is cut farther at once; its deeds behind a number do not hang on how it was cut: the law returns true for any stream and any two numbers. No condition. -/
import Derived.Test.YtcbllkkbpjobpaaInKnown
import Derived.Test.YtcbllkkbpjobpaaInGreat
import Derived.Test.YtcbllkkbpjobpaaArgsIn
import Derived.Test.YtcbllkkbpjobpaaStepsW
import Derived.Test.YtcbllkkbpjobpaaWLits
set_option linter.unusedVariables false
set_option linter.unusedSimpArgs false
namespace Go.Proofs.Ytcbllkkbpjobpaa
open Go.RowKit

theorem cutP_ok {b n : Int} {l : List Dd} (h : (cutP b l n).2.2 = 0) : mayS b l = true ∧ b ≤ n ∧ n ≤ b + l.length ∧ cutP b l n = (n, l.drop (n - b).toNat, 0) := by
  unfold cutP at h ⊢
  split at h
  · rename_i hc
    refine ⟨hc.1, hc.2.1, hc.2.2, ?_⟩
    rw [if_pos hc]
    unfold sinceL sinceK
    rw [if_pos hc.1, Nat.min_eq_left (by omega)]
  · simp at h
theorem mayS_drop {b : Int} {l : List Dd} (h : mayS b l = true) {n : Int} (h1 : b ≤ n) (h2 : n ≤ b + l.length) : mayS n (l.drop (n - b).toNat) = true := by
  obtain ⟨i1, i2, i3, i4⟩ := mayS_bnd h
  unfold mayS
  rw [Bool.and_eq_true, decide_eq_true_eq, List.all_eq_true, List.length_drop]
  exact ⟨⟨by omega, by omega, by omega⟩, fun x hx => i4 x (List.mem_of_mem_drop hx)⟩
theorem cut_twice {b n m : Int} {l : List Dd} (h1 : (cutP b l n).2.2 = 0) (h2 : (cutP (cutP b l n).1 (cutP b l n).2.1 m).2.2 = 0) :
    cutP b l m = cutP (cutP b l n).1 (cutP b l n).2.1 m ∧ (cutP b l m).2.2 = 0 ∧ cntS (cutP b l m).1 (cutP b l m).2.1 = cntS b l ∧ sinceL b l m = sinceL (cutP b l n).1 (cutP b l n).2.1 m ∧ ((sinceL b l m).length : Int) = cntS b l - m ∧ 0 ≤ cntS b l ∧ cntS b l ≤ 1073741824 ∧ 0 ≤ m := by
  obtain ⟨hm, a1, a2, e1⟩ := cutP_ok h1
  rw [e1] at h2 ⊢
  obtain ⟨hm2, a3, a4, e2⟩ := cutP_ok h2
  rw [e2]
  simp only at a3 a4 hm2 ⊢
  rw [List.length_drop] at a4
  have hbl := mayS_bnd hm
  have e3 : cutP b l m = (m, l.drop (m - b).toNat, 0) := by
    unfold cutP
    rw [if_pos ⟨hm, by omega, by omega⟩]
    unfold sinceL sinceK
    rw [if_pos hm, Nat.min_eq_left (by omega)]
  have ed : (l.drop (n - b).toNat).drop (m - n).toNat = l.drop (m - b).toNat := by
    rw [List.drop_drop]; congr 1; omega
  have es : sinceL b l m = l.drop (m - b).toNat := by
    unfold sinceL sinceK
    rw [if_pos hm, Nat.min_eq_left (by omega)]
  have es2 : sinceL n (l.drop (n - b).toNat) m = l.drop (m - b).toNat := by
    unfold sinceL sinceK
    rw [if_pos hm2, List.length_drop, Nat.min_eq_left (by omega), ed]
  have hc : cntS b l = b + l.length := by unfold cntS; rw [if_pos hm]
  have hc2 : cntS m (l.drop (m - b).toNat) = b + l.length := by
    unfold cntS
    rw [if_pos (mayS_drop hm (by omega) (by omega)), List.length_drop]; omega
  rw [e3]
  refine ⟨by rw [ed], rfl, by rw [hc2, hc], by rw [es, es2], ?_, by omega, by omega, by omega⟩
  rw [es, hc, List.length_drop]; omega
set_option maxHeartbeats 8000000 in
set_option maxRecDepth 100000 in
theorem inputTwice_any {b k m : Int} {sv : Value} {l : List Dd} {w : World} (h : Ds w sv l) (hk : -9223372036854775808 ≤ k ∧ k ≤ 9223372036854775807) (hm : -9223372036854775808 ≤ m ∧ m ≤ 9223372036854775807) :
    Calls Try.prog 7 #[.agg #[.int .i64 b, sv], .int .i64 k, .int .i64 m] w fun e w' => e = .returned (.bool true) ∧ Fr0 w w' := by
  obtain ⟨A, c, rfl, -⟩ := h.form
  have FX := Lib.hid ((Fr0.refl w).alloc (.cells #[.int .i64 b, .slice A l.length c] 24))
  have BX := Lib.hid (Blk.new w #[.int .i64 b, .slice A l.length c] 24)
  have KN := Lib.hid known21_any
  have HG1 := Lib.hid (fun W (hf : Fr0 w W) => great_any (b := b) (h.fr0 hf))
  have HA := Lib.hid (fun W (hf : Fr0 w W) => cut_any (b := b) (m := k) (h.fr0 hf) hk)
  have HC := Lib.hid (fun W (hf : Fr0 w W) => cut_any (b := b) (m := m) (h.fr0 hf) hm)
  have HB := Lib.hid (fun W B c' (hd : Ds W (.slice B (cutP b l k).2.1.length c') (cutP b l k).2.1) => cut_any (b := (cutP b l k).1) (m := m) hd hm)
  have HCS0 := Lib.hid (fun W (hf : Fr0 w W) => count_any (b := b) (h.fr0 hf))
  have HSX0 := Lib.hid (fun W (hf : Fr0 w W) => since_any (b := b) (m := m) (h.fr0 hf) hm)
  have HSY0 := Lib.hid (fun W B c' (hd : Ds W (.slice B (cutP b l k).2.1.length c') (cutP b l k).2.1) => since_any (b := (cutP b l k).1) (m := m) hd hm)
  have TW := Lib.hid (fun h1 h2 => cut_twice (b := b) (n := k) (m := m) (l := l) h1 h2)
  obtain ⟨PA, hPA⟩ : ∃ p, p = cutP b l k := ⟨_, rfl⟩
  rw [← hPA] at HA HB HSY0 TW
  obtain ⟨PB, hPB⟩ : ∃ p, p = cutP PA.1 PA.2.1 m := ⟨_, rfl⟩
  rw [← hPB] at HB TW
  obtain ⟨PC, hPC⟩ : ∃ p, p = cutP b l m := ⟨_, rfl⟩
  rw [← hPC] at HC TW
  obtain ⟨LX, hLX⟩ : ∃ p, p = sinceL b l m := ⟨_, rfl⟩
  rw [← hLX] at HSX0 TW
  obtain ⟨LY, hLY⟩ : ∃ p, p = sinceL PA.1 PA.2.1 m := ⟨_, rfl⟩
  rw [← hLY] at HSY0 TW
  obtain ⟨cn, hcn⟩ : ∃ p, p = cntS b l := ⟨_, rfl⟩
  rw [← hcn] at HCS0 TW
  obtain ⟨nl, hn⟩ : ∃ n, n = l.length := ⟨_, rfl⟩
  obtain ⟨g1, hg1⟩ : ∃ n, n = greatS l := ⟨_, rfl⟩
  rw [← hn] at FX BX HG1 HA HC HCS0 HSX0 ⊢
  rw [← hg1] at HG1
  have i5 := hm.1
  have i6 := hm.2
  clear hPA hPB hPC hLX hLY hcn hn hg1 h hk hm
  obtain ⟨bA, lA, eA⟩ := PA
  obtain ⟨bB, lB, eB⟩ := PB
  obtain ⟨bC, lC, eC⟩ := PC
  simp only at HA HB HC HSY0 TW
  obtain ⟨nA, hnA⟩ : ∃ n, n = lA.length := ⟨_, rfl⟩
  obtain ⟨nB, hnB⟩ : ∃ n, n = lB.length := ⟨_, rfl⟩
  obtain ⟨nC, hnC⟩ : ∃ n, n = lC.length := ⟨_, rfl⟩
  rw [← hnA] at HA HB HSY0
  rw [← hnB] at HB
  rw [← hnC] at HC
  cases g1
  case true =>
    go_enter Try.func7, Try.ntmps7
    go_wp2_with (first
      | (go_at_call 8; refine (KN.out _).mono ?_; rintro e w1 ⟨rfl, hf⟩; have F1 := Lib.hid (Fr0.trans FX.out hf); have x0 := ((BX.out).fr0 hf).cell 0 rfl; have x1 := ((BX.out).fr0 hf).cell 1 rfl; clear hf)
      | (go_at_call 9; refine (HG1.out _ F1.out).mono ?_; rintro e w2 ⟨rfl, hf⟩; have F2 := Lib.hid (Fr0.trans F1.out hf); clear hf))
    go_ret
    exact ⟨rfl, F2.out⟩
  have HNA := Lib.hid hnA
  have HNB := Lib.hid hnB
  have HNC := Lib.hid hnC
  clear hnA hnB hnC
  by_cases he : eA = 0 ∧ eB = 0
  case neg =>
    have b0 : (eA != 0 || eB != 0) = true := by
      by_cases h1 : eA = 0
      · by_cases h2 : eB = 0
        · exact absurd ⟨h1, h2⟩ he
        · simp [h2]
      · simp [h1]
    have HE := Lib.hid b0
    clear he b0 TW
    go_enter Try.func7, Try.ntmps7
    go_upto_region 8 with (first
      | (go_at_call 8; refine (KN.out _).mono ?_; rintro e w1 ⟨rfl, hf⟩; have F1 := Lib.hid (Fr0.trans FX.out hf); have X1 := Lib.hid ((BX.out).fr0 hf); have x0 := (X1.out).cell 0 rfl; have x1 := (X1.out).cell 1 rfl; clear hf)
      | (go_at_call 9; refine (HG1.out _ F1.out).mono ?_; rintro e w2 ⟨rfl, hf⟩; have F2 := Lib.hid (Fr0.trans F1.out hf); have X2 := Lib.hid ((X1.out).fr0 hf); have y0 := (X2.out).cell 0 rfl; have y1 := (X2.out).cell 1 rfl; clear hf)
      | (have _q := F4; go_at_call 12; refine (HC.out _ F4.out).mono ?_; rintro e w5 ⟨B5, c5, rfl, hd, hf⟩; have F5 := Lib.hid ((Fr0.trans F4.out hf).alloc (.cells #[.int .i64 bC, .slice B5 nC c5] 24)); clear hf hd)
      | (have _q := F3; go_at_call 12; refine (HB.out _ _ _ D3.out).mono ?_; rintro e w4 ⟨B4, c4, rfl, hd, hf⟩; have G4 := hf.alloc (.cells #[.int .i64 bB, .slice B4 nB c4] 24); have F4 := Lib.hid (Fr0.trans F3.out G4); have X4 := Lib.hid ((X3.out).fr0 G4); have z0 := (X4.out).cell 0 rfl; have z1 := (X4.out).cell 1 rfl; clear hf hd G4)
      | (go_at_call 12; refine (HA.out _ F2.out).mono ?_; rintro e w3 ⟨B3, c3, rfl, hd, hf⟩; have G3 := hf.alloc (.cells #[.int .i64 bA, .slice B3 nA c3] 24); have F3 := Lib.hid (Fr0.trans F2.out G3); have X3 := Lib.hid ((X2.out).fr0 G3); have D3 := Lib.hid ((hd.ds (fun v t h => h.rd)).fr0 ((Fr0.refl w3).alloc (.cells #[.int .i64 bA, .slice B3 nA c3] 24))); clear hf hd G3))
    by_cases h1 : eA = 0
    · have b1 : (eA != 0) = false := by simpa using h1
      have b2 : (eB != 0) = true := by have := HE.out; rw [b1] at this; simpa using this
      clear h1
      go_wp2_with fail
      go_ret
      exact ⟨rfl, F5.out⟩
    · have b1 : (eA != 0) = true := by simpa using h1
      clear h1
      go_wp2_with fail
      go_ret
      exact ⟨rfl, F5.out⟩
  obtain ⟨rfl, rfl⟩ := he
  obtain ⟨t1, t2, t3, t4, t5, t6, t7, t8⟩ := TW.out rfl rfl
  injection t1 with t1 t1'
  injection t1' with t1' t1''
  try simp only at t2 t3
  subst t1 t1' t2 t4
  obtain rfl : nC = nB := by rw [HNC.out, HNB.out]
  have HCB0 := Lib.hid (fun W B c' (hd : Ds W (.slice B lC.length c') lC) => count_any (b := bC) hd)
  rw [t3, ← HNC.out] at HCB0
  have HS0 := Lib.hid (fun W B c' B2 c2 (hd : Ds W (.slice B lC.length c') lC) (hd2 : Ds W (.slice B2 lC.length c2) lC) => show Calls Try.prog 25 #[.agg #[.int .i64 bC, .slice B lC.length c'], .agg #[.int .i64 bC, .slice B2 lC.length c2]] W fun e w' => e = .returned (.bool true) ∧ Fr0 W w' from by
    have := same_any (b := bC) (b2 := bC) hd hd2
    rwa [decide_eq_true ⟨rfl, rfl⟩] at this)
  rw [← HNC.out] at HS0
  have HS20 := Lib.hid (fun W B c' B2 c2 (hd : Ds W (.slice B LX.length c') LX) (hd2 : Ds W (.slice B2 LX.length c2) LX) => show Calls Try.prog 25 #[.agg #[.int .i64 0, .slice B LX.length c'], .agg #[.int .i64 0, .slice B2 LX.length c2]] W fun e w' => e = .returned (.bool true) ∧ Fr0 W w' from by
    have := same_any (b := 0) (b2 := 0) hd hd2
    rwa [decide_eq_true ⟨rfl, rfl⟩] at this)
  obtain ⟨nx, hnx⟩ : ∃ n, n = LX.length := ⟨_, rfl⟩
  rw [← hnx] at HSX0 HSY0 HS20 t5
  have HLEN := Lib.hid (show (nx : Int) = cn - m from t5)
  have w1 : IntKind.i64.wrap (cn - m) = cn - m := by rw [IntKind.wrap_i64]; omega
  have HQ : ((nx : Int) == cn - m) = true := by rw [t5]; simp
  have HNX := Lib.hid hnx
  clear t3 t5 TW hnx
  go_enter Try.func7, Try.ntmps7
  go_upto_region 10 with (first
    | (go_at_call 8; refine (KN.out _).mono ?_; rintro e w1 ⟨rfl, hf⟩; have F1 := Lib.hid (Fr0.trans FX.out hf); have X1 := Lib.hid ((BX.out).fr0 hf); have x0 := (X1.out).cell 0 rfl; have x1 := (X1.out).cell 1 rfl; clear hf)
    | (go_at_call 9; refine (HG1.out _ F1.out).mono ?_; rintro e w2 ⟨rfl, hf⟩; have F2 := Lib.hid (Fr0.trans F1.out hf); have X2 := Lib.hid ((X1.out).fr0 hf); have y0 := (X2.out).cell 0 rfl; have y1 := (X2.out).cell 1 rfl; clear hf)
    | (have _q := F4; go_at_call 12; refine (HC.out _ F4.out).mono ?_; rintro e w5 ⟨B5, c5, rfl, hd, hf⟩; have G5 := hf.alloc (.cells #[.int .i64 bC, .slice B5 nC c5] 24); have F5 := Lib.hid (Fr0.trans F4.out G5); have X5 := Lib.hid ((X4.out).fr0 G5); have XA5 := Lib.hid ((XA4.out).fr0 G5); have XB5 := Lib.hid ((XB4.out).fr0 G5); have XC5 := Lib.hid (Blk.new w5 #[.int .i64 bC, .slice B5 nC c5] 24); have D35 := Lib.hid ((D34.out).fr0 G5); have D45 := Lib.hid ((D4.out).fr0 G5); have D5 := Lib.hid ((hd.ds (fun v t h => h.rd)).fr0 ((Fr0.refl w5).alloc (.cells #[.int .i64 bC, .slice B5 nC c5] 24))); clear hf hd G5)
    | (have _q := F3; go_at_call 12; refine (HB.out _ _ _ D3.out).mono ?_; rintro e w4 ⟨B4, c4, rfl, hd, hf⟩; have G4 := hf.alloc (.cells #[.int .i64 bC, .slice B4 nC c4] 24); have F4 := Lib.hid (Fr0.trans F3.out G4); have X4 := Lib.hid ((X3.out).fr0 G4); have XA4 := Lib.hid ((XA3.out).fr0 G4); have XB4 := Lib.hid (Blk.new w4 #[.int .i64 bC, .slice B4 nC c4] 24); have D34 := Lib.hid ((D3.out).fr0 G4); have D4 := Lib.hid ((hd.ds (fun v t h => h.rd)).fr0 ((Fr0.refl w4).alloc (.cells #[.int .i64 bC, .slice B4 nC c4] 24))); have z0 := (X4.out).cell 0 rfl; have z1 := (X4.out).cell 1 rfl; clear hf hd G4)
    | (go_at_call 12; refine (HA.out _ F2.out).mono ?_; rintro e w3 ⟨B3, c3, rfl, hd, hf⟩; have G3 := hf.alloc (.cells #[.int .i64 bA, .slice B3 nA c3] 24); have F3 := Lib.hid (Fr0.trans F2.out G3); have X3 := Lib.hid ((X2.out).fr0 G3); have XA3 := Lib.hid (Blk.new w3 #[.int .i64 bA, .slice B3 nA c3] 24); have D3 := Lib.hid ((hd.ds (fun v t h => h.rd)).fr0 ((Fr0.refl w3).alloc (.cells #[.int .i64 bA, .slice B3 nA c3] 24))); clear hf hd G3))
  obtain ⟨gA, hgA⟩ : ∃ g, g = w3.heap.size := ⟨_, rfl⟩
  obtain ⟨gB, hgB⟩ : ∃ g, g = w4.heap.size := ⟨_, rfl⟩
  obtain ⟨gC, hgC⟩ : ∃ g, g = w5.heap.size := ⟨_, rfl⟩
  rw [← hgA] at XA5
  rw [← hgB] at XB5
  rw [← hgC] at XC5
  rw [← hgA, ← hgB, ← hgC]
  obtain ⟨W5, hW5⟩ : ∃ W, W = w5.alloc (.cells #[.int .i64 bC, .slice B5 nC c5] 24) := ⟨_, rfl⟩
  rw [← hW5] at F5 X5 XA5 XB5 XC5 D35 D45 D5 ⊢
  have F := Lib.hid ((F5.out).drew)
  have X := Lib.hid ((X5.out).drew)
  have XA := Lib.hid ((XA5.out).drew)
  have XB := Lib.hid ((XB5.out).drew)
  have XC := Lib.hid ((XC5.out).drew)
  have DA := Lib.hid (show Ds W5.drew (.slice B3 nA c3) lA from (D35.out).fr0 ((Fr0.refl W5).drew))
  have DB := Lib.hid (show Ds W5.drew (.slice B4 nC c4) lC from (D45.out).fr0 ((Fr0.refl W5).drew))
  have DC := Lib.hid (show Ds W5.drew (.slice B5 nC c5) lC from (D5.out).fr0 ((Fr0.refl W5).drew))
  clear hgA hgB hgC hW5 F1 F2 F3 F4 F5 X1 X2 X3 X4 X5 XA3 XA4 XA5 XB4 XB5 XC5 D3 D34 D35 D4 D45 D5 x0 x1 y0 y1 z0 z1 KN HG1 HA HB HC FX BX
  have HS := Lib.hid (fun W (hf : Fr0 W5.drew W) => HS0.out W _ _ _ _ ((DB.out).fr0 hf) ((DC.out).fr0 hf))
  have HCB := Lib.hid (fun W (hf : Fr0 W5.drew W) => HCB0.out W _ _ ((DB.out).fr0 hf))
  have HCS := Lib.hid (fun W (hf : Fr0 W5.drew W) => HCS0.out W (Fr0.trans F.out hf))
  refine wp_region_held_drew (S := (fun W => Fr0 W5.drew W)) (by kernel_rfl) (Fr0.refl _) (fun hHeld => ?_)
  generalize W5.drew = wq at *
  have U0 := Lib.hid (Fr0.refl wq)
  have _hI : True := trivial
  clear _hI
  refine takeH (i := 0) rfl (by kernel_rfl) (by kernel_rfl) (by kernel_rfl) (fun _ _ _ h => h) (.inl ⟨rfl, fun W hW => (by go_simp; try rfl)⟩) (Fr0.refl wq) ?_
  try simp only [Act.put, List.setIfInBounds_toArray, List.set_cons_zero, List.set_cons_succ]
  have _hI : True := trivial
  clear _hI
  refine takeH (i := 1) rfl (by kernel_rfl) (by kernel_rfl) (by kernel_rfl) (fun _ _ _ h => h) (v := .bool false) (.inl ⟨rfl, fun W hW => (by go_simp; try rfl)⟩) (Fr0.refl wq) ?_
  try simp only [Act.put, List.setIfInBounds_toArray, List.set_cons_zero, List.set_cons_succ]
  have _hI : True := trivial
  clear _hI
  refine takeH (i := 2) rfl (by kernel_rfl) (by kernel_rfl) (by kernel_rfl) (fun _ _ _ h => h) (.inl ⟨rfl, fun W hW => (by go_simp; try rfl)⟩) (Fr0.refl wq) ?_
  try simp only [Act.put, List.setIfInBounds_toArray, List.set_cons_zero, List.set_cons_succ]
  have _hI : True := trivial
  clear _hI
  refine takeH (i := 3) rfl (by kernel_rfl) (by kernel_rfl) (by kernel_rfl) (fun _ _ _ h => h) (yieldsW_load_blk rfl 24 _ rfl gB rfl 24 #[.int .i64 bC, .slice B4 nC c4] (fun W hW => (XB.out).fr0 hW) _ Try.underlying24 rfl (by kernel_rfl)) (Fr0.refl wq) ?_
  try simp only [Act.put, List.setIfInBounds_toArray, List.set_cons_zero, List.set_cons_succ]
  have _hI : True := trivial
  clear _hI
  refine takeH (i := 4) rfl (by kernel_rfl) (by kernel_rfl) (by kernel_rfl) (fun _ _ _ h => h) (yieldsW_load_blk rfl 24 _ rfl gC rfl 24 #[.int .i64 bC, .slice B5 nC c5] (fun W hW => (XC.out).fr0 hW) _ Try.underlying24 rfl (by kernel_rfl)) (Fr0.refl wq) ?_
  try simp only [Act.put, List.setIfInBounds_toArray, List.set_cons_zero, List.set_cons_succ]
  have _hI : True := trivial
  clear _hI
  refine wpAnyH_ready (rs := [5]) (by kernel_rfl) (by simp) (consG rfl rfl (fun K hK => ?_) AllReadyH.nil)
  have _hI : True := trivial
  clear _hI
  go_simp
  refine (HS.out _ U0.out).mono ?_
  rintro e Wn1 ⟨rfl, hf⟩
  have U1 := Lib.hid (Fr0.trans U0.out hf)
  clear hf
  refine hK.out _ _ U1.out ?_
  clear hK
  try simp only [Act.put, List.setIfInBounds_toArray, List.set_cons_zero, List.set_cons_succ]
  have _hI : True := trivial
  clear _hI
  refine takeH (i := 6) rfl (by kernel_rfl) (by kernel_rfl) (by kernel_rfl) (fun _ _ _ h => h) (v := .bool false) (.inl ⟨rfl, fun W hW => (by go_simp; try rfl)⟩) U1.out ?_
  try simp only [Act.put, List.setIfInBounds_toArray, List.set_cons_zero, List.set_cons_succ]
  have _hI : True := trivial
  clear _hI
  refine takeH (i := 7) rfl (by kernel_rfl) (by kernel_rfl) (by kernel_rfl) (fun _ _ _ h => h) (.inl ⟨rfl, fun W hW => (by go_simp; try rfl)⟩) U1.out ?_
  try simp only [Act.put, List.setIfInBounds_toArray, List.set_cons_zero, List.set_cons_succ]
  have _hI : True := trivial
  clear _hI
  refine takeH (i := 8) rfl (by kernel_rfl) (by kernel_rfl) (by kernel_rfl) (fun _ _ _ h => h) (.inl ⟨rfl, fun W hW => (by go_simp; try rfl)⟩) U1.out ?_
  try simp only [Act.put, List.setIfInBounds_toArray, List.set_cons_zero, List.set_cons_succ]
  have _hI : True := trivial
  clear _hI
  refine takeH (i := 9) rfl (by kernel_rfl) (by kernel_rfl) (by kernel_rfl) (fun _ _ _ h => h) (yieldsW_load_blk rfl 24 _ rfl gB rfl 24 #[.int .i64 bC, .slice B4 nC c4] (fun W hW => (XB.out).fr0 hW) _ Try.underlying24 rfl (by kernel_rfl)) U1.out ?_
  try simp only [Act.put, List.setIfInBounds_toArray, List.set_cons_zero, List.set_cons_succ]
  have _hI : True := trivial
  clear _hI
  refine takeH (i := 11) rfl (by kernel_rfl) (by kernel_rfl) (by kernel_rfl) (fun _ _ _ h => h) (yieldsW_load_blk rfl 24 _ rfl w.heap.size rfl 24 #[.int .i64 b, .slice A nl c] (fun W hW => (X.out).fr0 hW) _ Try.underlying24 rfl (by kernel_rfl)) U1.out ?_
  try simp only [Act.put, List.setIfInBounds_toArray, List.set_cons_zero, List.set_cons_succ]
  have _hI : True := trivial
  clear _hI
  refine wpAnyH_ready (rs := [10]) (by kernel_rfl) (by simp) (consG rfl rfl (fun K hK => ?_) AllReadyH.nil)
  have _hI : True := trivial
  clear _hI
  go_simp
  refine (HCB.out _ U1.out).mono ?_
  rintro e Wn2 ⟨rfl, hf⟩
  have U2 := Lib.hid (Fr0.trans U1.out hf)
  clear hf
  refine hK.out _ _ U2.out ?_
  clear hK
  try simp only [Act.put, List.setIfInBounds_toArray, List.set_cons_zero, List.set_cons_succ]
  have _hI : True := trivial
  clear _hI
  refine wpAnyH_ready (rs := [12]) (by kernel_rfl) (by simp) (consG rfl rfl (fun K hK => ?_) AllReadyH.nil)
  have _hI : True := trivial
  clear _hI
  go_simp
  refine (HCS.out _ U2.out).mono ?_
  rintro e Wn3 ⟨rfl, hf⟩
  have U3 := Lib.hid (Fr0.trans U2.out hf)
  clear hf
  refine hK.out _ _ U3.out ?_
  clear hK
  try simp only [Act.put, List.setIfInBounds_toArray, List.set_cons_zero, List.set_cons_succ]
  have _hI : True := trivial
  clear _hI
  refine takeH (i := 13) rfl (by kernel_rfl) (by kernel_rfl) (by kernel_rfl) (fun _ _ _ h => h) (v := .bool false) (.inl ⟨rfl, fun W hW => (by go_simp; try rfl)⟩) U3.out ?_
  try simp only [Act.put, List.setIfInBounds_toArray, List.set_cons_zero, List.set_cons_succ]
  have _hI : True := trivial
  clear _hI
  refine takeH (i := 14) rfl (by kernel_rfl) (by kernel_rfl) (by kernel_rfl) (fun _ _ _ h => h) (.inl ⟨rfl, fun W hW => (by go_simp; try rfl)⟩) U3.out ?_
  try simp only [Act.put, List.setIfInBounds_toArray, List.set_cons_zero, List.set_cons_succ]
  refine wpAnyH_done (by kernel_rfl) ?_ _
  have F10 := Lib.hid (Fr0.trans F.out U3.out)
  have G10 := Lib.hid U3.out
  replace F := F10
  replace X := Lib.hid ((X.out).fr0 G10.out)
  replace XA := Lib.hid ((XA.out).fr0 G10.out)
  replace DA := Lib.hid ((DA.out).fr0 G10.out)
  clear XB XC DB DC HS HCB HS0 HCB0 U0 U1 U2 U3 F10 G10
  go_upto_region 12 with (fail)
  replace F := Lib.hid ((F.out).drew)
  replace X := Lib.hid ((X.out).drew)
  replace XA := Lib.hid ((XA.out).drew)
  replace DA := Lib.hid (show Ds Wn3.drew (.slice B3 nA c3) lA from (DA.out).fr0 ((Fr0.refl Wn3).drew))
  have HSX := Lib.hid (fun W (hf : Fr0 Wn3.drew W) => (HSX0.out W (Fr0.trans F.out hf)).mono (fun e w' (h : ∃ B c', e = _ ∧ DsG _ _ w' (.slice B nx c') LX ∧ Fr0 W w') => show ∃ B c', e = .returned (.slice B nx c') ∧ Ds w' (.slice B nx c') LX ∧ Fr0 W w' from by obtain ⟨B, c', e, hd, hf⟩ := h; exact ⟨B, c', e, hd.ds (fun v t h => h.rd), hf⟩))
  have HSY := Lib.hid (fun W (hf : Fr0 Wn3.drew W) => (HSY0.out W _ _ ((DA.out).fr0 hf)).mono (fun e w' (h : ∃ B c', e = _ ∧ DsG _ _ w' (.slice B nx c') LX ∧ Fr0 W w') => show ∃ B c', e = .returned (.slice B nx c') ∧ Ds w' (.slice B nx c') LX ∧ Fr0 W w' from by obtain ⟨B, c', e, hd, hf⟩ := h; exact ⟨B, c', e, hd.ds (fun v t h => h.rd), hf⟩))
  clear HCS HSX0 HSY0
  refine wp_region_held_drew (S := (fun W => Fr0 Wn3.drew W)) (by kernel_rfl) (Fr0.refl _) (fun hHeld => ?_)
  generalize Wn3.drew = wr at *
  have U0 := Lib.hid (Fr0.refl wr)
  have _hI : True := trivial
  clear _hI
  refine takeH (i := 0) rfl (by kernel_rfl) (by kernel_rfl) (by kernel_rfl) (fun _ _ _ h => h) (yieldsW_load_blk rfl 24 _ rfl w.heap.size rfl 24 #[.int .i64 b, .slice A nl c] (fun W hW => (X.out).fr0 hW) _ Try.underlying24 rfl (by kernel_rfl)) (Fr0.refl wr) ?_
  try simp only [Act.put, List.setIfInBounds_toArray, List.set_cons_zero, List.set_cons_succ]
  have _hI : True := trivial
  clear _hI
  refine takeH (i := 1) rfl (by kernel_rfl) (by kernel_rfl) (by kernel_rfl) (fun _ _ _ h => h) (.inl ⟨rfl, fun W hW => (by go_simp; try rfl)⟩) (Fr0.refl wr) ?_
  try simp only [Act.put, List.setIfInBounds_toArray, List.set_cons_zero, List.set_cons_succ]
  have _hI : True := trivial
  clear _hI
  refine takeH (i := 3) rfl (by kernel_rfl) (by kernel_rfl) (by kernel_rfl) (fun _ _ _ h => h) (yieldsW_load_blk rfl 24 _ rfl gA rfl 24 #[.int .i64 bA, .slice B3 nA c3] (fun W hW => (XA.out).fr0 hW) _ Try.underlying24 rfl (by kernel_rfl)) (Fr0.refl wr) ?_
  try simp only [Act.put, List.setIfInBounds_toArray, List.set_cons_zero, List.set_cons_succ]
  have _hI : True := trivial
  clear _hI
  refine takeH (i := 4) rfl (by kernel_rfl) (by kernel_rfl) (by kernel_rfl) (fun _ _ _ h => h) (.inl ⟨rfl, fun W hW => (by go_simp; try rfl)⟩) (Fr0.refl wr) ?_
  try simp only [Act.put, List.setIfInBounds_toArray, List.set_cons_zero, List.set_cons_succ]
  have _hI : True := trivial
  clear _hI
  refine wpAnyH_ready (rs := [2]) (by kernel_rfl) (by simp) (consG rfl rfl (fun K hK => ?_) AllReadyH.nil)
  have _hI : True := trivial
  clear _hI
  go_simp
  refine (HSX.out _ U0.out).mono ?_
  rintro e Wn11 ⟨B6, c6, rfl, hd, hf⟩
  have U11 := Lib.hid (Fr0.trans U0.out hf)
  have D6 := Lib.hid hd
  clear hd
  clear hf
  refine hK.out _ _ U11.out ?_
  clear hK
  try simp only [Act.put, List.setIfInBounds_toArray, List.set_cons_zero, List.set_cons_succ]
  have _hI : True := trivial
  clear _hI
  refine wpAnyH_ready (rs := [5]) (by kernel_rfl) (by simp) (consG rfl rfl (fun K hK => ?_) AllReadyH.nil)
  have _hI : True := trivial
  clear _hI
  go_simp
  refine (HSY.out _ U11.out).mono ?_
  rintro e Wn12 ⟨B7, c7, rfl, hd, hf⟩
  have U12 := Lib.hid (Fr0.trans U11.out hf)
  have D6b := Lib.hid ((D6.out).fr0 hf)
  have D7 := Lib.hid hd
  clear hd
  clear hf
  refine hK.out _ _ U12.out ?_
  clear hK
  try simp only [Act.put, List.setIfInBounds_toArray, List.set_cons_zero, List.set_cons_succ]
  have _hI : True := trivial
  clear _hI
  refine takeH (i := 6) rfl (by kernel_rfl) (by kernel_rfl) (by kernel_rfl) (fun _ _ _ h => h) (.inl ⟨rfl, fun W hW => (by go_simp; try rfl)⟩) U12.out ?_
  try simp only [Act.put, List.setIfInBounds_toArray, List.set_cons_zero, List.set_cons_succ]
  have _hI : True := trivial
  clear _hI
  refine takeH (i := 7) rfl (by kernel_rfl) (by kernel_rfl) (by kernel_rfl) (fun _ _ _ h => h) (.inl ⟨rfl, fun W hW => (by go_simp; try rfl)⟩) U12.out ?_
  try simp only [Act.put, List.setIfInBounds_toArray, List.set_cons_zero, List.set_cons_succ]
  refine wpAnyH_done (by kernel_rfl) ?_ _
  have F12 := Lib.hid (Fr0.trans F.out U12.out)
  have G12 := Lib.hid U12.out
  replace X := Lib.hid ((X.out).fr0 G12.out)
  go_wp2_with (first
    | (go_at_call 25; refine (HS20.out _ _ _ _ _ D6b.out D7.out).mono ?_; rintro e w8 ⟨rfl, hf⟩; have F8 := Lib.hid (Fr0.trans F12.out hf); have x0 := ((X.out).fr0 hf).cell 0 rfl; have x1 := ((X.out).fr0 hf).cell 1 rfl; clear hf)
    | (go_at_call 23; refine (HCS0.out _ F8.out).mono ?_; rintro e w9 ⟨rfl, hf⟩; have F9 := Lib.hid (Fr0.trans F8.out hf); clear hf))
  go_ret
  exact ⟨rfl, F9.out⟩
namespace InputTwice
open Go.ChangeShapes Go.WideShapes Go.ChangeAt
open Go.ChangeMaps (open_string shut_string)

theorem own : ownKnob Try.prog.godebug = none := by kernel_rfl
theorem laidOut : laidOutB Try.prog = true := by kernel_rfl

set_option maxRecDepth 100000 in
theorem lifted (os : Os) (started : os.Started) (H : Type) (enc : TypeId × Value → H) :
    ReturnsInHanded {} Try.checked os 7 .any (Rows.inputTwiceSpec.pre6 enc Try.prog Try.f7 Rows.inputTwiceRow.domain false) (Rows.inputTwiceSpec.post enc Try.prog Try.f7 false true false false) := by
  refine returnsInHanded_of_change (C := Try.checked) own started (by kernel_rfl) Try.func7
    (ChangeSpec.witness6 (enc := enc) (C := Try.checked) false ⟨#[], #[.agg #[.int .i64 0, .slice none 0 0], .int .i64 0, .int .i64 0], []⟩ 8 (by kernel_rfl) (by kernel_rfl) (by kernel_rfl) (by kernel_rfl)) ?_
  intro W base args ds gs before hval0 hW hcnd _
  have hval : ∀ (j : Nat) t v, Try.f7.params[j]? = some t → args[j]? = some v → Value.okWide Try.prog W .any base t v := hval0
  have hW' := hW
  obtain ⟨p, q, hA0, hV, rfl, hfz, hnd⟩ := hW
  have hA : DataW.TrodAll enc Try.prog W 0 (fun _ => true) true Try.f7.params.toList args.toList ds p := hA0
  rw [Try.params7] at hA hval
  obtain ⟨v0, vs0, d0', ds0, p0, q0, hargs, rfl, rfl, h0, r0⟩ := trodAll_cons hA
  obtain ⟨v1, vs1, d1', ds1, p1, q1, rfl, rfl, rfl, h1, r1⟩ := trodAll_cons r0
  obtain ⟨v2, vs2, d2', ds2, p2, q2, rfl, rfl, rfl, h2, r2⟩ := trodAll_cons r1
  obtain ⟨rfl, rfl, rfl⟩ := trodAll_nil r2
  obtain rfl : args = #[v0, v1, v2] := by cases args; simp_all
  obtain ⟨rfl, rfl⟩ := trodVars_none hV
  have k0 := h0
  have lt0 : ∀ x ∈ p0, x.block < W.heap.size := by obtain ⟨m, hm⟩ := k0; exact DataW.trod_lt m _ _ _ hm
  obtain ⟨b0, sv0, l0, rfl, hy0, hb0⟩ := arg_stream (hval 0 24 v0 rfl rfl) h0
  obtain ⟨n1, rfl, rfl, rfl, hn1⟩ := open_int Try.underlying3 (hval 1 3 v1 rfl rfl) h1
  have hm1 := lit_i64 hn1
  obtain ⟨n2, rfl, rfl, rfl, hn2⟩ := open_int Try.underlying3 (hval 2 3 v2 rfl rfl) h2
  have hm2 := lit_i64 hn2
  clear hA0 hval0
  refine (inputTwice_any hy0 hm1 hm2).mono fun e W' ⟨he, hfr⟩ => ?_
  have bel : Below W.heap.size W W' := Fr0.below hfr
  subst he
  exact ⟨_, rfl, _, _, _, [], _, [], hW', trodAll_mk1 (shut_bool Try.underlying4 _), (trodAll_cons_mk (Below.trod laidOut (by kernel_rfl) (of_decide_eq_true (by kernel_rfl)) k0 bel lt0) (trodAll_cons_mk (shut_int Try.underlying3 hn1) (trodAll_cons_mk (shut_int Try.underlying3 hn2) trodAll_mk0))), rfl, bel.frame _, fun h => by cases h⟩

theorem over : Rows.inputTwiceRow.holds Try.pinned (OpenSpec.ofChange Rows.inputTwiceSpec) :=
  OpenClaim.holds_of_wide 7 Try.f7 rfl rfl rfl rfl rfl rfl rfl ⟨rfl, rfl, rfl, rfl, rfl⟩ rfl rfl rfl rfl rfl (by kernel_rfl) Try.func7 (by kernel_rfl)
    (of_decide_eq_true (by kernel_rfl)) (by unfold Func.isWrapper; first | (rw [if_pos (by decide +kernel)]; kernel_rfl) | (rw [if_neg (by decide +kernel)]; exact ⟨rfl, rfl⟩))
    (fun os started H enc _ => lifted os started H enc)

theorem proved : Rows.InputTwiceSaid := over
#print axioms proved
end InputTwice
end Go.Proofs.Ytcbllkkbpjobpaa
