/- InputEdits: a stream with a deed more, cut, and its deeds behind a number, are the document's, or refused; the stream stays, and what is told is new: the law returns true for any stream, any deed, any number. No condition. -/
import Derived.Test.YtcbllkkbpjobpaaInRef
import Derived.Test.YtcbllkkbpjobpaaInRef2
import Derived.Test.YtcbllkkbpjobpaaLInEdTAll
import Derived.Test.YtcbllkkbpjobpaaWLits
set_option linter.unusedVariables false
set_option linter.unusedSimpArgs false
namespace Go.Proofs.Ytcbllkkbpjobpaa
open Go.RowKit
set_option maxHeartbeats 8000000 in
set_option maxRecDepth 100000 in
theorem inputEdits_any {b m : Int} {sv dv : Value} {l : List Dd} {x : Dd} {w : World} (h : Ds w sv l) (hd : RdB w dv x.t) (hm : -9223372036854775808 ≤ m ∧ m ≤ 9223372036854775807) :
    Calls Try.prog 3 #[.agg #[.int .i64 b, sv], .agg #[.int .i64 x.kind, dv, .int .i64 x.rows, .int .i64 x.cols], .int .i64 m] w fun e w' => e = .returned (.bool true) ∧ Fr0 w w' := by
  obtain ⟨A, c, rfl, -⟩ := h.form
  obtain ⟨Bd, ed, rfl, -⟩ := hd.form
  have x63 := Rd.le63 hd
  obtain ⟨wa, hwa⟩ : ∃ W, W = (w.alloc (.cells #[.int .i64 b, .slice A l.length c] 24)).alloc (.cells #[.int .i64 x.kind, .slice Bd x.t.length ed, .int .i64 x.rows, .int .i64 x.cols] 28) := ⟨_, rfl⟩
  have FX := Lib.hid (show Fr0 w wa by rw [hwa]; exact ((Fr0.refl w).alloc _).alloc _)
  have BX := Lib.hid (show Blk wa w.heap.size #[.int .i64 b, .slice A l.length c] 24 by rw [hwa]; exact (Blk.new w _ 24).alloc _)
  have BZ := Lib.hid (show Blk wa (w.heap.size + 1) (ddA x Bd ed) 28 by rw [hwa]; have := Blk.new (w.alloc (.cells #[.int .i64 b, .slice A l.length c] 24)) (ddA x Bd ed) 28; simpa [ddA] using this)
  have KN := Lib.hid known21_any
  have HG1 := Lib.hid (fun W (hf : Fr0 w W) => great_any (b := b) (h.fr0 hf))
  have HRM := Lib.hid (fun W (hf : Fr0 w W) => rmay_any (b := b) (h.fr0 hf))
  have HRD := Lib.hid (fun W => rdeed_any x.kind x.rows x.cols Bd x.t.length ed W (by omega))
  have HCO0 := Lib.hid (fun W (hf : Fr0 w W) (hg : greatS l = false) => rcopy_any (b := b) (h.fr0 hf) (by have := (greatS_no hg).1; omega) (fun x hx => by have := (greatS_no hg).2 x hx; omega))
  have HAD := Lib.hid (fun W B c' (hf : Fr0 w W) (hh : Ds W (.slice B l.length c') l) => add_any (b := b) (d := x) hh (hd.fr0 hf))
  have HCU := Lib.hid (fun W B c' (hh : Ds W (.slice B l.length c') l) => cut_any (b := b) (m := m) hh hm)
  have HSI := Lib.hid (fun W B c' (hh : Ds W (.slice B l.length c') l) => since_any (b := b) (m := m) hh hm)
  have HRS0 := Lib.hid (fun W (hs : mayS b l = true) (hf : Fr0 w W) => (rsince_any (b := b) (m := m) (h.fr0 hf) hs).mono (fun e w' hh => show ∃ B c', e = .returned (.slice B (sinceL b l m).length c') ∧ Ds w' (.slice B (sinceL b l m).length c') (sinceL b l m) ∧ Fr0 W w' from by
    obtain ⟨B, c', he, hd, hf2⟩ := hh
    obtain ⟨tv, e1, e2, e3⟩ := hd
    exact ⟨B, c', he, ⟨tv, e1, by rw [show tv.length = (sinceL b l m).length by rw [← e1, List.length_map]] at e2 ⊢; exact Rd.of_own e2, fun y hy => (e3 y hy).fr0 hf2⟩, hf2⟩))
  have HRS1 := Lib.hid (fun W (hs : mayS b l = true) (hf : Fr0 w W) => (rsince_any (b := b) (m := m) (h.fr0 hf) hs).mono (fun e w' hh => show ∃ B c', e = .returned (.slice B (sinceL b l m).length c') ∧ DsG (fun _ v t => RdB W v t) W.heap.size w' (.slice B (sinceL b l m).length c') (sinceL b l m) ∧ Fr0 W w' from hh))
  have HSL := Lib.hid (fun W B c' (hf : Fr0 w W) (hh : Ds W (.slice B l.length c') l) => show Calls Try.prog 16 #[.agg #[.int .i64 b, .slice B l.length c'], .agg #[.int .i64 b, .slice A l.length c]] W fun e w' => e = .returned (.bool true) ∧ Fr0 W w' from by
    have := rsame_any (b := b) (b2 := b) hh (h.fr0 hf)
    rwa [decide_eq_true ⟨rfl, rfl⟩] at this)
  have HPA := Lib.hid (show addP b l x = (if mayS b l = true ∧ mayD x = true then (if l.length = 64 ∨ b + l.length = 1073741824 then (0, [], 5) else (b, l ++ [x], 0)) else (0, [], 2) : Int × List Dd × Int) from rfl)
  have HPC := Lib.hid (show cutP b l m = (if mayS b l = true ∧ b ≤ m ∧ m ≤ b + l.length then (m, sinceL b l m, 0) else (0, [], 2) : Int × List Dd × Int) from rfl)
  have HLN := Lib.hid (fun (hs : mayS b l = false) => show sinceL b l m = [] from by unfold sinceL; rw [if_neg (by simp [hs])])
  have HDM := Lib.hid (show mayN x.kind x.t.length x.rows x.cols = mayD x from rfl)
  rw [HDM.out] at HRD
  have BN := Lib.hid (fun hs => mayS_bnd (b := b) (l := l) hs)
  have H := Lib.hid h
  have HDT := Lib.hid hd
  obtain ⟨n, hn⟩ : ∃ n, n = l.length := ⟨_, rfl⟩
  obtain ⟨g1, hg1⟩ : ∃ q, q = greatS l := ⟨_, rfl⟩
  obtain ⟨s, hs⟩ : ∃ q, q = mayS b l := ⟨_, rfl⟩
  obtain ⟨sd, hsd⟩ : ∃ q, q = mayD x := ⟨_, rfl⟩
  obtain ⟨PA, hPA⟩ : ∃ q, q = addP b l x := ⟨_, rfl⟩
  obtain ⟨PC, hPC⟩ : ∃ q, q = cutP b l m := ⟨_, rfl⟩
  obtain ⟨LN, hLN⟩ : ∃ q, q = sinceL b l m := ⟨_, rfl⟩
  rw [← hPA] at HAD HPA
  rw [← hPC] at HCU HPC
  rw [← hLN] at HSI HRS0 HRS1 HPC HLN
  rw [← hn] at BX HG1 HRM HCO0 HAD HCU HSI HSL HPA HPC BN H HRS0 HRS1 hwa ⊢
  rw [← hg1] at HG1 HCO0
  rw [← hs] at HRM HRS0 HRS1 HPA HPC HLN BN
  rw [← hsd] at HRD HPA
  have HNL := Lib.hid hn.symm
  have i5 := hm.1
  have i6 := hm.2
  clear hn hg1 hs hsd hPA hPC hLN h hd hm HDM
  obtain ⟨pA, lA, eA⟩ := PA
  obtain ⟨pC, lC, eC⟩ := PC
  unfold AddOut at HAD
  try simp only at HAD HCU
  obtain ⟨nA, hnA⟩ : ∃ q, q = lA.length := ⟨_, rfl⟩
  obtain ⟨nC, hnC⟩ : ∃ q, q = lC.length := ⟨_, rfl⟩
  obtain ⟨nL, hnL⟩ : ∃ q, q = LN.length := ⟨_, rfl⟩
  rw [← hnA] at HAD
  rw [← hnC] at HCU
  rw [← hnL] at HSI HRS0 HRS1
  have HNA := Lib.hid hnA
  have HNC := Lib.hid hnC
  have HNLL := Lib.hid hnL
  clear hnA hnC hnL
  subst hwa
  cases g1
  case true =>
    go_enter Try.func3, Try.ntmps3
    go_wp2_with (first
      | (go_at_call 8; refine (KN.out _).mono ?_; rintro e w3 ⟨rfl, hf⟩; have F3 := Lib.hid (Fr0.trans FX.out hf); have x0 := ((BX.out).fr0 hf).cell 0 rfl; have x1 := ((BX.out).fr0 hf).cell 1 rfl; clear hf)
      | (go_at_call 9; refine (HG1.out _ F3.out).mono ?_; rintro e w4 ⟨rfl, hf⟩; have F4 := Lib.hid (Fr0.trans F3.out hf); clear hf))
    go_ret
    exact ⟨rfl, F4.out⟩
  have HCO := Lib.hid (fun W hf => HCO0.out W hf rfl)
  clear HCO0
  by_cases h3 : 100 < x.t.length
  · have d1 : decide (100 < (x.t.length : Int)) = true := by simp; omega
    have d2 : decide (100 < x.t.length) = true := by simpa using h3
    clear h3
    go_enter Try.func3, Try.ntmps3
    go_wp2_with (first
      | (go_at_call 8; refine (KN.out _).mono ?_; rintro e w3 ⟨rfl, hf⟩; have F3 := Lib.hid (Fr0.trans FX.out hf); have Z3 := Lib.hid ((BZ.out).fr0 hf); have x0 := ((BX.out).fr0 hf).cell 0 rfl; have x1 := ((BX.out).fr0 hf).cell 1 rfl; clear hf)
      | (go_at_call 9; refine (HG1.out _ F3.out).mono ?_; rintro e w4 ⟨rfl, hf⟩; have F4 := Lib.hid (Fr0.trans F3.out hf); obtain ⟨z0, z1, z2, z3⟩ := dd_cells ((Z3.out).fr0 hf); clear hf))
    go_ret
    exact ⟨rfl, F4.out⟩
  have d1 : decide (100 < (x.t.length : Int)) = false := by simp; omega
  have d2 : decide (100 < x.t.length) = false := by simpa using h3
  clear h3
  go_enter Try.func3, Try.ntmps3
  go_upto_block 0 with (first
    | (go_at_call 8; refine (KN.out _).mono ?_; rintro e w3 ⟨rfl, hf⟩; have F3 := Lib.hid (Fr0.trans FX.out hf); have X3 := Lib.hid ((BX.out).fr0 hf); have Z3 := Lib.hid ((BZ.out).fr0 hf); have x0 := (X3.out).cell 0 rfl; have x1 := (X3.out).cell 1 rfl; clear hf)
    | (go_at_call 9; refine (HG1.out _ F3.out).mono ?_; rintro e w4 ⟨rfl, hf⟩; have F4 := Lib.hid (Fr0.trans F3.out hf); have X4 := Lib.hid ((X3.out).fr0 hf); have Z4 := Lib.hid ((Z3.out).fr0 hf); obtain ⟨z0, z1, z2, z3⟩ := dd_cells Z4.out; have y0 := (X4.out).cell 0 rfl; have y1 := (X4.out).cell 1 rfl; clear hf)
    | (go_at_call 10; refine (HCO.out _ F4.out).mono ?_; rintro e w5 ⟨B5, c5, rfl, hh, hf⟩; have GG := hf.alloc (.cells #[.int .i64 b, .slice B5 n c5] 24); have F5 := Lib.hid (Fr0.trans F4.out GG); have X5 := Lib.hid ((X4.out).fr0 GG); have Z5 := Lib.hid ((Z4.out).fr0 GG); have Y5 := Lib.hid (Blk.new w5 #[.int .i64 b, .slice B5 n c5] 24); have D5 := Lib.hid ((hh.ds (fun v t h => h.rd)).fr0 ((Fr0.refl w5).alloc (.cells #[.int .i64 b, .slice B5 n c5] 24))); obtain ⟨z0, z1, z2, z3⟩ := dd_cells Z5.out; clear hh hf GG)
    | (go_at_call 11; refine (HAD.out _ _ _ F5.out D5.out).mono ?_; rintro e w6 ⟨B8, c8, rfl, hh, hf⟩; have GG := hf.alloc (.cells #[.int .i64 pA, .slice B8 nA c8] 24); have G6 := Lib.hid GG; have D56 := Lib.hid ((D5.out).fr0 GG); have Y56 := Lib.hid ((Y5.out).fr0 GG); have Y6 := Lib.hid (Blk.new w6 #[.int .i64 pA, .slice B8 nA c8] 24); have D6 := Lib.hid (hh.fr0 ((Fr0.refl w6).alloc (.cells #[.int .i64 pA, .slice B8 nA c8] 24)) (fun v t h => h.fr0 ((Fr0.refl w6).alloc _))); have r0 := (Y56.out).cell 0 rfl; have r1 := (Y56.out).cell 1 rfl; clear hh hf GG)
    | (go_at_call 12; refine (HCU.out _ _ _ D56.out).mono ?_; rintro e w7 ⟨B10, c10, rfl, hh, hf⟩; have GG := hf.alloc (.cells #[.int .i64 pC, .slice B10 nC c10] 24); have G7 := Lib.hid (Fr0.trans G6.out GG); have D57 := Lib.hid ((D56.out).fr0 GG); have Y57 := Lib.hid ((Y56.out).fr0 GG); have Y67 := Lib.hid ((Y6.out).fr0 GG); have D67 := Lib.hid ((D6.out).fr0 GG (fun v t h => h.fr0 GG)); have Y7 := Lib.hid (Blk.new w7 #[.int .i64 pC, .slice B10 nC c10] 24); have D7 := Lib.hid ((hh.ds (fun v t h => h.rd)).fr0 ((Fr0.refl w7).alloc (.cells #[.int .i64 pC, .slice B10 nC c10] 24))); have p0 := (Y57.out).cell 0 rfl; have p1 := (Y57.out).cell 1 rfl; clear hh hf GG)
    | (go_at_call 13; refine (HSI.out _ _ _ D57.out).mono ?_; rintro e w8 ⟨B12, c12, rfl, hh, hf⟩; have G8 := Lib.hid (Fr0.trans G7.out hf); have D58 := Lib.hid ((D57.out).fr0 hf); have Y58 := Lib.hid ((Y57.out).fr0 hf); have Y68 := Lib.hid ((Y67.out).fr0 hf); have D68 := Lib.hid ((D67.out).fr0 hf (fun v t h => h.fr0 hf)); have Y78 := Lib.hid ((Y7.out).fr0 hf); have D78 := Lib.hid ((D7.out).fr0 hf); have D8 := Lib.hid (hh.mono (b2 := (w5.alloc (.cells #[.int .i64 b, .slice B5 n c5] 24)).heap.size) (T2 := SlO (w5.alloc (.cells #[.int .i64 b, .slice B5 n c5] 24)).heap.size) (G7.out).size (fun v t h => h.low (G7.out).size)); have X8 := Lib.hid ((X5.out).fr0 G8.out); have Z8 := Lib.hid ((Z5.out).fr0 G8.out); have o0 := (X8.out).cell 0 rfl; have o1 := (X8.out).cell 1 rfl; clear hh hf)
    | (go_at_call 14; refine (HRM.out _ (Fr0.trans F5.out G8.out)).mono ?_; rintro e w9 ⟨rfl, hf⟩; have G9 := Lib.hid (Fr0.trans G8.out hf); have X9 := Lib.hid ((X8.out).fr0 hf); have Z9 := Lib.hid ((Z8.out).fr0 hf); have D59 := Lib.hid ((D58.out).fr0 hf); have Y59 := Lib.hid ((Y58.out).fr0 hf); have Y69 := Lib.hid ((Y68.out).fr0 hf); have D69 := Lib.hid ((D68.out).fr0 hf (fun v t h => h.fr0 hf)); have Y79 := Lib.hid ((Y78.out).fr0 hf); have D79 := Lib.hid ((D78.out).fr0 hf); have D89 := Lib.hid ((D8.out).fr0 hf (fun v t h => h.fr0 hf)); clear hf))
  obtain ⟨W5, hW5⟩ : ∃ W, W = w5.alloc (.cells #[.int .i64 b, .slice B5 n c5] 24) := ⟨_, rfl⟩
  rw [← hW5] at F5 G9 D69 D89 Y5 D5 X5
  obtain ⟨g7, hg7⟩ : ∃ g, g = w5.heap.size := ⟨_, rfl⟩
  obtain ⟨g8, hg8⟩ : ∃ g, g = w6.heap.size := ⟨_, rfl⟩
  obtain ⟨g10, hg10⟩ : ∃ g, g = w7.heap.size := ⟨_, rfl⟩
  rw [← hg7] at Y59 Y5
  rw [← hg8] at Y69
  rw [← hg10] at Y79
  rw [← hg7, ← hg8, ← hg10]
  have FD9 := Lib.hid (Fr0.refl w9)
  have FW9 := Lib.hid (Fr0.trans F5.out G9.out)
  have HSE := Lib.hid (fun W B c' (hd : Ds W (.slice B 0 c') []) => show Calls Try.prog 16 #[.agg #[.int .i64 0, .slice B 0 c'], .agg #[.int .i64 0, .slice none 0 0]] W fun e w' => e = .returned (.bool true) ∧ Fr0 W w' from rsame_any (b := 0) (b2 := 0) hd (Ds.nil W))
  have DA9 := Lib.hid ((D69.out).ds (fun v t h => h.rd))
  clear hW5 hg7 hg8 hg10 F3 F4 X3 X4 X8 Z3 Z4 Z5 Z8 Y56 Y57 Y58 Y6 Y67 Y68 Y7 Y78 D56 D57 D58 D6 D67 D68 D7 D78 D8 G6 G7 G8 x0 x1 y0 y1 z0 z1 z2 z3 r0 r1 p0 p1 o0 o1 KN HG1 HCO HAD HCU HSI BX BZ FX
  go_cut [] (fun wx => Fr0 w9 wx)
  case first =>
    obtain ⟨z0, z1, z2, z3⟩ := dd_cells Z9.out
    have a0 := (Y69.out).cell 0 rfl
    have a1 := (Y69.out).cell 1 rfl
    have x0 := (X9.out).cell 0 rfl
    have x1 := (X9.out).cell 1 rfl
    cases s
    case false =>
      have HV : (pA, lA, eA) = ((0 : Int), ([] : List Dd), (2 : Int)) := by rw [HPA.out, if_neg (by simp)]
      obtain ⟨rfl, h⟩ := Prod.mk.inj HV
      obtain ⟨rfl, rfl⟩ := Prod.mk.inj h
      obtain rfl : nA = 0 := HNA.out
      clear HV h HPA HPC HLN BN HRS0 HRS1
      go_wp2_with (first
        | (go_at_call 16; refine (HSE.out _ _ _ DA9.out).mono ?_; rintro e w10 ⟨rfl, hf⟩; have F10 := Lib.hid hf; clear hf))
      go_meet
      exact F10.out
    obtain ⟨i1, i2, i3, -⟩ := (BN.out) rfl
    cases sd
    case false =>
      have HV : (pA, lA, eA) = ((0 : Int), ([] : List Dd), (2 : Int)) := by rw [HPA.out, if_neg (by simp)]
      obtain ⟨rfl, h⟩ := Prod.mk.inj HV
      obtain ⟨rfl, rfl⟩ := Prod.mk.inj h
      obtain rfl : nA = 0 := HNA.out
      clear HV h HPA HPC HLN BN HRS0 HRS1
      go_wp2_with (first
        | (go_at_call 15; refine (HRD.out _).mono ?_; rintro e w10 ⟨rfl, hf⟩; have F10 := Lib.hid hf; have b0 := hf.cell a0; have b1 := hf.cell a1; clear hf)
        | (go_at_call 16; refine (HSE.out _ _ _ ((DA9.out).fr0 F10.out)).mono ?_; rintro e w11 ⟨rfl, hf⟩; have F11 := Lib.hid (Fr0.trans F10.out hf); clear hf))
      go_meet
      exact F11.out
    have w1 : IntKind.i64.wrap (b + (n : Int)) = b + (n : Int) := by rw [IntKind.wrap_i64]; omega
    by_cases h64 : n = 64
    · have d3 : ((n : Int) == 64) = true := by rw [h64]; rfl
      have d4 : (n == 64) = true := by rw [h64]; rfl
      have HV : (pA, lA, eA) = ((0 : Int), ([] : List Dd), (5 : Int)) := by rw [HPA.out, if_pos (by simp), if_pos (.inl h64)]
      obtain ⟨rfl, h⟩ := Prod.mk.inj HV
      obtain ⟨rfl, rfl⟩ := Prod.mk.inj h
      obtain rfl : nA = 0 := HNA.out
      clear HV h HPA HPC HLN BN HRS0 HRS1 h64
      go_wp2_with (first
        | (go_at_call 15; refine (HRD.out _).mono ?_; rintro e w10 ⟨rfl, hf⟩; have F10 := Lib.hid hf; have b0 := hf.cell a0; have b1 := hf.cell a1; have b2 := hf.cell x0; have b3 := hf.cell x1; clear hf)
        | (go_at_call 16; refine (HSE.out _ _ _ ((DA9.out).fr0 F10.out)).mono ?_; rintro e w11 ⟨rfl, hf⟩; have F11 := Lib.hid (Fr0.trans F10.out hf); clear hf))
      go_meet
      exact F11.out
    have d3 : ((n : Int) == 64) = false := by simp; omega
    have d4 : (n == 64) = false := by simpa using h64
    by_cases hb30 : b + (n : Int) = 1073741824
    · have d5 : (b + (n : Int) == 1073741824) = true := by simpa using hb30
      have HV : (pA, lA, eA) = ((0 : Int), ([] : List Dd), (5 : Int)) := by rw [HPA.out, if_pos (by simp), if_pos (.inr hb30)]
      obtain ⟨rfl, h⟩ := Prod.mk.inj HV
      obtain ⟨rfl, rfl⟩ := Prod.mk.inj h
      obtain rfl : nA = 0 := HNA.out
      clear HV h HPA HPC HLN BN HRS0 HRS1 h64 hb30
      go_wp2_with (first
        | (go_at_call 15; refine (HRD.out _).mono ?_; rintro e w10 ⟨rfl, hf⟩; have F10 := Lib.hid hf; have b0 := hf.cell a0; have b1 := hf.cell a1; have b2 := hf.cell x0; have b3 := hf.cell x1; clear hf)
        | (go_at_call 16; refine (HSE.out _ _ _ ((DA9.out).fr0 F10.out)).mono ?_; rintro e w11 ⟨rfl, hf⟩; have F11 := Lib.hid (Fr0.trans F10.out hf); clear hf))
      go_meet
      exact F11.out
    have d5 : (b + (n : Int) == 1073741824) = false := by simpa using hb30
    have HV : (pA, lA, eA) = (b, l ++ [x], (0 : Int)) := by rw [HPA.out, if_pos (by simp), if_neg (by omega)]
    obtain ⟨hpa, h⟩ := Prod.mk.inj HV
    have hpa2 : b = pA := hpa.symm
    subst hpa2
    obtain ⟨hla, rfl⟩ := Prod.mk.inj h
    have HLA := Lib.hid hla
    clear HV h HPA HPC HLN BN HRS0 HRS1 h64 hb30 hla hpa
    go_upto_region 10 with (first
      | (go_at_call 15; refine (HRD.out _).mono ?_; rintro e w10 ⟨rfl, hf⟩; have F10 := Lib.hid hf; have b2 := hf.cell x0; have b3 := hf.cell x1; clear hf))
    have FQ := Lib.hid (show Fr0 w w10.drew from (Fr0.trans FW9.out F10.out).drew)
    have F9Q := Lib.hid (show Fr0 w9 w10.drew from (F10.out).drew)
    have Y8 := Lib.hid (((Y69.out).fr0 F10.out).drew)
    have YX := Lib.hid (((X9.out).fr0 F10.out).drew)
    have YZ := Lib.hid (((Z9.out).fr0 F10.out).drew)
    obtain ⟨tv, tve, tvr, tvx⟩ := H.out
    have TVE := Lib.hid tve
    have TVL := Lib.hid (show tv.length = n from by rw [← HNL.out, ← tve, List.length_map])
    rw [TVL.out] at tvr
    have TVR := Lib.hid tvr
    have TVX := Lib.hid tvx
    have HSA := Lib.hid (fun W A' c' (hf : Fr0 w10.drew W) (hd : Ds W (.slice A' (n + 1) c') (l ++ [x])) => show Calls Try.prog 16 #[.agg #[.int .i64 b, .slice B8 nA c8], .agg #[.int .i64 b, .slice A' (n + 1) c']] W fun e w' => e = .returned (.bool true) ∧ Fr0 W w' from by
      have e1 : n + 1 = (l ++ [x]).length := by simp [HNL.out]
      have e2 : nA = (l ++ [x]).length := by rw [HNA.out, HLA.out]
      have h2 := (DA9.out).fr0 (Fr0.trans F10.out (Fr0.trans ((Fr0.refl w10).drew) hf))
      rw [e1] at hd ⊢
      rw [e2, HLA.out] at h2
      rw [e2]
      have := rsame_any (b := b) (b2 := b) h2 hd
      rwa [decide_eq_true ⟨rfl, rfl⟩] at this)
    clear tve tvr tvx a0 a1 x0 x1 z0 z1 z2 z3 b2 b3
    refine wp_region_held_drew (S := (fun W => Fr0 w10.drew W)) (by kernel_rfl) (Fr0.refl _) (fun hHeld => ?_)
    generalize w10.drew = wq at *
    have U0 := Lib.hid (Fr0.refl wq)
    have _hI : True := trivial
    clear _hI
    refine takeH (i := 0) rfl (by kernel_rfl) (by kernel_rfl) (by kernel_rfl) (fun _ _ _ h => h) (.inl ⟨rfl, fun W hW => (by go_simp; try rfl)⟩) (Fr0.refl wq) ?_
    try simp only [Act.put, List.setIfInBounds_toArray, List.set_cons_zero, List.set_cons_succ]
    have _hI : True := trivial
    clear _hI
    refine takeH (i := 1) rfl (by kernel_rfl) (by kernel_rfl) (by kernel_rfl) (fun _ _ _ h => h) (v := .bool false) (.inl ⟨rfl, fun W hW => (by go_simp; try rfl)⟩) (Fr0.refl wq) ?_
    try simp only [Act.put, List.setIfInBounds_toArray, List.set_cons_zero, List.set_cons_succ]
    have _hI : True := trivial
    clear _hI
    refine takeH (i := 2) rfl (by kernel_rfl) (by kernel_rfl) (by kernel_rfl) (fun _ _ _ h => h) (.inl ⟨rfl, fun W hW => (by go_simp; try rfl)⟩) (Fr0.refl wq) ?_
    try simp only [Act.put, List.setIfInBounds_toArray, List.set_cons_zero, List.set_cons_succ]
    have _hI : True := trivial
    clear _hI
    refine takeH (i := 3) rfl (by kernel_rfl) (by kernel_rfl) (by kernel_rfl) (fun _ _ _ h => h) (yieldsW_load_blk rfl 24 _ rfl g8 rfl 24 #[.int .i64 b, .slice B8 nA c8] (fun W hW => (Y8.out).fr0 hW) _ Try.underlying24 rfl (by kernel_rfl)) (Fr0.refl wq) ?_
    try simp only [Act.put, List.setIfInBounds_toArray, List.set_cons_zero, List.set_cons_succ]
    have _hI : True := trivial
    clear _hI
    refine takeH (i := 4) rfl (by kernel_rfl) (by kernel_rfl) (by kernel_rfl) (fun _ _ _ h => h) (.inl ⟨rfl, fun W hW => (by go_simp; try rfl)⟩) (Fr0.refl wq) ?_
    try simp only [Act.put, List.setIfInBounds_toArray, List.set_cons_zero, List.set_cons_succ]
    have _hI : True := trivial
    clear _hI
    refine takeH (i := 5) rfl (by kernel_rfl) (by kernel_rfl) (by kernel_rfl) (fun _ _ _ h => h) (v := .int .i64 b) (.inl ⟨rfl, fun W hW => (by have f := ((YX.out).fr0 hW).cell 0 rfl; go_simp; try rfl)⟩) (Fr0.refl wq) ?_
    try simp only [Act.put, List.setIfInBounds_toArray, List.set_cons_zero, List.set_cons_succ]
    have _hI : True := trivial
    clear _hI
    refine takeH (i := 7) rfl (by kernel_rfl) (by kernel_rfl) (by kernel_rfl) (fun _ _ _ h => h) (.inl ⟨rfl, fun W hW => (by go_simp; try rfl)⟩) (Fr0.refl wq) ?_
    try simp only [Act.put, List.setIfInBounds_toArray, List.set_cons_zero, List.set_cons_succ]
    have _hI : True := trivial
    clear _hI
    refine takeH (i := 8) rfl (by kernel_rfl) (by kernel_rfl) (by kernel_rfl) (fun _ _ _ h => h) (v := .slice A n c) (.inl ⟨rfl, fun W hW => (by have f := ((YX.out).fr0 hW).cell 1 rfl; go_simp; try rfl)⟩) (Fr0.refl wq) ?_
    try simp only [Act.put, List.setIfInBounds_toArray, List.set_cons_zero, List.set_cons_succ]
    have _hI : True := trivial
    clear _hI
    refine takeH (i := 10) rfl (by kernel_rfl) (by kernel_rfl) (by kernel_rfl) (fun _ _ _ h => h) (yieldsW_load_blk rfl 28 _ rfl (w.heap.size + 1) rfl 28 (ddA x Bd ed) (fun W hW => (YZ.out).fr0 hW) _ Try.underlying28 rfl (by kernel_rfl)) (Fr0.refl wq) ?_
    try simp only [Act.put, List.setIfInBounds_toArray, List.set_cons_zero, List.set_cons_succ]
    have _hI : True := trivial
    clear _hI
    refine wpAnyH_ready (rs := [6, 11]) (by kernel_rfl) (by simp) (consG rfl rfl (fun K hK => ?_) (consG rfl rfl (fun K hK => ?_) AllReadyH.nil))
    ·
      have _hI : True := trivial
      clear _hI
      refine wp_built_blk 22 28 _ _ rfl #[] (fun W => by go_simp; try rfl) ?_
      intro ge Wn1 hB hf hg
      have E := Lib.hid (show DsG (fun _ v t => RdB w v t) wq.heap.size Wn1 (.slice (some ⟨ge, 0, none⟩) 0 0) [] from ⟨[], rfl, own_empty hB (Nat.le_trans (U0.out).size hg), fun y hy => by cases hy⟩)
      have U1 := Lib.hid (Fr0.trans U0.out hf)
      clear hB hf hg
      refine hK.out _ _ U1.out ?_
      clear hK
      try simp only [Act.put, List.setIfInBounds_toArray, List.set_cons_zero, List.set_cons_succ]
      have _hI : True := trivial
      clear _hI
      refine wpAnyH_ready (rs := [9, 11]) (by kernel_rfl) (by simp) (consG rfl rfl (fun K hK => ?_) (consG rfl rfl (fun K hK => ?_) AllReadyH.nil))
      ·
        have _hI : True := trivial
        clear _hI
        refine wp_append_ds (n := 0) (m := n) (l2 := tv) _ _ rfl (U1.out).size E.out rfl rfl TVL.out ((TVR.out).fr0 (Fr0.trans FQ.out U1.out)) rfl (fun y hy => (TVX.out y hy).fr0 (Fr0.trans FQ.out U1.out)) (by omega) (fun w' hf v t h => h) (fun w' hf y hy => TVX.out y hy) ?_
        intro A9 c9 Wn2 hD hF
        have P := Lib.hid (show DsG (fun _ v t => RdB w v t) wq.heap.size Wn2 (.slice A9 (0 + n) c9) l from by have h := hD; rw [TVE.out, List.nil_append] at h; exact h)
        have hf0 := hF
        have UN2 := Lib.hid (show Fr0 wq Wn2 from Fr.then U1.out hF (fun i hi hl => by have := (E.out.lo i hi).1; omega))
        clear hD hF hf0
        refine hK.out _ _ UN2.out ?_
        clear hK
        try simp only [Act.put, List.setIfInBounds_toArray, List.set_cons_zero, List.set_cons_succ]
        have _hI : True := trivial
        clear _hI
        refine wpAnyH_ready (rs := [11]) (by kernel_rfl) (by simp) (consG rfl rfl (fun K hK => ?_) AllReadyH.nil)
        have _hI : True := trivial
        clear _hI
        refine wp_built_blk 22 28 _ _ rfl (ddA x Bd ed) (fun W => by unfold ddA; go_simp; try rfl) ?_
        intro gb Wn3 hB hf hg
        replace P := Lib.hid ((P.out).fr0 hf (fun v t h => h))
        have GB := Lib.hid hB
        have U3 := Lib.hid (Fr0.trans UN2.out hf)
        clear hB hf hg
        refine hK.out _ _ U3.out ?_
        clear hK
        try simp only [Act.put, List.setIfInBounds_toArray, List.set_cons_zero, List.set_cons_succ]
        have _hI : True := trivial
        clear _hI
        refine wpAnyH_ready (rs := [12]) (by kernel_rfl) (by simp) (consG rfl rfl (fun K hK => ?_) AllReadyH.nil)
        have _hI : True := trivial
        clear _hI
        refine wp_append_ds (n := 0 + n) (m := 1) (l2 := [(.slice Bd x.t.length ed, x)]) _ _ rfl (U3.out).size P.out rfl (by rw [HNL.out, Nat.zero_add]) rfl (rd_dd GB.out) rfl (fun y hy => by rw [List.mem_singleton] at hy; subst hy; exact (HDT.out).fr0 (Fr0.trans FQ.out U3.out)) (by omega) (fun w' hf v t h => h) (fun w' hf y hy => by rw [List.mem_singleton] at hy; subst hy; exact HDT.out) ?_
        intro A12 c12 Wn4 hD hF
        have UN4 := Lib.hid (show Fr0 wq Wn4 from Fr.then U3.out hF (fun i hi hl => by have := (P.out.lo i hi).1; omega))
        have D12 := Lib.hid (show Ds Wn4 (.slice A12 (n + 1) c12) (l ++ [x]) from by rw [Nat.zero_add] at hD; obtain ⟨tw, h1, h2, h3⟩ := hD; exact ⟨tw, h1, by have h4 := Rd.of_own h2; rw [show tw.length = n + 1 from by have := congrArg List.length h1; rw [List.length_map] at this; simp [HNL.out] at this; omega] at h4 ⊢; exact h4, fun y hy => (h3 y hy).fr0 (Fr0.trans FQ.out UN4.out)⟩)
        clear hD hF
        refine hK.out _ _ UN4.out ?_
        clear hK
        try simp only [Act.put, List.setIfInBounds_toArray, List.set_cons_zero, List.set_cons_succ]
        have _hI : True := trivial
        clear _hI
        refine takeH (i := 13) rfl (by kernel_rfl) (by kernel_rfl) (by kernel_rfl) (fun _ _ _ h => h) (v := .agg #[.int .i64 b, .slice A12 (n + 1) c12]) (.inl ⟨rfl, fun W hW => (by go_simp; try rfl)⟩) UN4.out ?_
        try simp only [Act.put, List.setIfInBounds_toArray, List.set_cons_zero, List.set_cons_succ]
        have _hI : True := trivial
        clear _hI
        refine wpAnyH_ready (rs := [14]) (by kernel_rfl) (by simp) (consG rfl rfl (fun K hK => ?_) AllReadyH.nil)
        have _hI : True := trivial
        clear _hI
        go_simp
        refine (HSA.out _ _ _ UN4.out D12.out).mono ?_
        rintro e Wn5 ⟨rfl, hf⟩
        have U5 := Lib.hid (Fr0.trans UN4.out hf)
        clear hf
        refine hK.out _ _ U5.out ?_
        clear hK
        try simp only [Act.put, List.setIfInBounds_toArray, List.set_cons_zero, List.set_cons_succ]
        have _hI : True := trivial
        clear _hI
        refine takeH (i := 15) rfl (by kernel_rfl) (by kernel_rfl) (by kernel_rfl) (fun _ _ _ h => h) (v := .bool false) (.inl ⟨rfl, fun W hW => (by go_simp; try rfl)⟩) U5.out ?_
        try simp only [Act.put, List.setIfInBounds_toArray, List.set_cons_zero, List.set_cons_succ]
        have _hI : True := trivial
        clear _hI
        refine takeH (i := 16) rfl (by kernel_rfl) (by kernel_rfl) (by kernel_rfl) (fun _ _ _ h => h) (.inl ⟨rfl, fun W hW => (by go_simp; try rfl)⟩) U5.out ?_
        try simp only [Act.put, List.setIfInBounds_toArray, List.set_cons_zero, List.set_cons_succ]
        refine wpAnyH_done (by kernel_rfl) ?_ _
        go_wp2_with fail
        go_meet
        exact Fr0.trans F9Q.out U5.out
      ·
        have _hI : True := trivial
        clear _hI
        refine wp_built_blk 22 28 _ _ rfl (ddA x Bd ed) (fun W => by unfold ddA; go_simp; try rfl) ?_
        intro gb Wn6 hB hf hg
        have NEB := Lib.hid (show ge ≠ gb from by have := (E.out.lo ge rfl).2; omega)
        replace E := Lib.hid ((E.out).fr0 hf (fun v t h => h))
        have GB := Lib.hid hB
        have U6 := Lib.hid (Fr0.trans U1.out hf)
        clear hB hf hg
        refine hK.out _ _ U6.out ?_
        clear hK
        try simp only [Act.put, List.setIfInBounds_toArray, List.set_cons_zero, List.set_cons_succ]
        have _hI : True := trivial
        clear _hI
        refine wpAnyH_ready (rs := [9]) (by kernel_rfl) (by simp) (consG rfl rfl (fun K hK => ?_) AllReadyH.nil)
        have _hI : True := trivial
        clear _hI
        refine wp_append_ds (n := 0) (m := n) (l2 := tv) _ _ rfl (U6.out).size E.out rfl rfl TVL.out ((TVR.out).fr0 (Fr0.trans FQ.out U6.out)) rfl (fun y hy => (TVX.out y hy).fr0 (Fr0.trans FQ.out U6.out)) (by omega) (fun w' hf v t h => h) (fun w' hf y hy => TVX.out y hy) ?_
        intro A9 c9 Wn7 hD hF
        have P := Lib.hid (show DsG (fun _ v t => RdB w v t) wq.heap.size Wn7 (.slice A9 (0 + n) c9) l from by have h := hD; rw [TVE.out, List.nil_append] at h; exact h)
        have hf0 := hF
        have UN7 := Lib.hid (show Fr0 wq Wn7 from Fr.then U6.out hF (fun i hi hl => by have := (E.out.lo i hi).1; omega))
        replace GB := Lib.hid ((GB.out).fr hF (fun hi => NEB.out (by injection hi)))
        clear hD hF hf0
        refine hK.out _ _ UN7.out ?_
        clear hK
        try simp only [Act.put, List.setIfInBounds_toArray, List.set_cons_zero, List.set_cons_succ]
        have _hI : True := trivial
        clear _hI
        refine wpAnyH_ready (rs := [12]) (by kernel_rfl) (by simp) (consG rfl rfl (fun K hK => ?_) AllReadyH.nil)
        have _hI : True := trivial
        clear _hI
        refine wp_append_ds (n := 0 + n) (m := 1) (l2 := [(.slice Bd x.t.length ed, x)]) _ _ rfl (UN7.out).size P.out rfl (by rw [HNL.out, Nat.zero_add]) rfl (rd_dd GB.out) rfl (fun y hy => by rw [List.mem_singleton] at hy; subst hy; exact (HDT.out).fr0 (Fr0.trans FQ.out UN7.out)) (by omega) (fun w' hf v t h => h) (fun w' hf y hy => by rw [List.mem_singleton] at hy; subst hy; exact HDT.out) ?_
        intro A12 c12 Wn8 hD hF
        have UN8 := Lib.hid (show Fr0 wq Wn8 from Fr.then UN7.out hF (fun i hi hl => by have := (P.out.lo i hi).1; omega))
        have D12 := Lib.hid (show Ds Wn8 (.slice A12 (n + 1) c12) (l ++ [x]) from by rw [Nat.zero_add] at hD; obtain ⟨tw, h1, h2, h3⟩ := hD; exact ⟨tw, h1, by have h4 := Rd.of_own h2; rw [show tw.length = n + 1 from by have := congrArg List.length h1; rw [List.length_map] at this; simp [HNL.out] at this; omega] at h4 ⊢; exact h4, fun y hy => (h3 y hy).fr0 (Fr0.trans FQ.out UN8.out)⟩)
        clear hD hF
        refine hK.out _ _ UN8.out ?_
        clear hK
        try simp only [Act.put, List.setIfInBounds_toArray, List.set_cons_zero, List.set_cons_succ]
        have _hI : True := trivial
        clear _hI
        refine takeH (i := 13) rfl (by kernel_rfl) (by kernel_rfl) (by kernel_rfl) (fun _ _ _ h => h) (v := .agg #[.int .i64 b, .slice A12 (n + 1) c12]) (.inl ⟨rfl, fun W hW => (by go_simp; try rfl)⟩) UN8.out ?_
        try simp only [Act.put, List.setIfInBounds_toArray, List.set_cons_zero, List.set_cons_succ]
        have _hI : True := trivial
        clear _hI
        refine wpAnyH_ready (rs := [14]) (by kernel_rfl) (by simp) (consG rfl rfl (fun K hK => ?_) AllReadyH.nil)
        have _hI : True := trivial
        clear _hI
        go_simp
        refine (HSA.out _ _ _ UN8.out D12.out).mono ?_
        rintro e Wn9 ⟨rfl, hf⟩
        have U9 := Lib.hid (Fr0.trans UN8.out hf)
        clear hf
        refine hK.out _ _ U9.out ?_
        clear hK
        try simp only [Act.put, List.setIfInBounds_toArray, List.set_cons_zero, List.set_cons_succ]
        have _hI : True := trivial
        clear _hI
        refine takeH (i := 15) rfl (by kernel_rfl) (by kernel_rfl) (by kernel_rfl) (fun _ _ _ h => h) (v := .bool false) (.inl ⟨rfl, fun W hW => (by go_simp; try rfl)⟩) U9.out ?_
        try simp only [Act.put, List.setIfInBounds_toArray, List.set_cons_zero, List.set_cons_succ]
        have _hI : True := trivial
        clear _hI
        refine takeH (i := 16) rfl (by kernel_rfl) (by kernel_rfl) (by kernel_rfl) (fun _ _ _ h => h) (.inl ⟨rfl, fun W hW => (by go_simp; try rfl)⟩) U9.out ?_
        try simp only [Act.put, List.setIfInBounds_toArray, List.set_cons_zero, List.set_cons_succ]
        refine wpAnyH_done (by kernel_rfl) ?_ _
        go_wp2_with fail
        go_meet
        exact Fr0.trans F9Q.out U9.out
    ·
      have _hI : True := trivial
      clear _hI
      refine wp_built_blk 22 28 _ _ rfl (ddA x Bd ed) (fun W => by unfold ddA; go_simp; try rfl) ?_
      intro gb Wn10 hB hf hg
      have GB := Lib.hid hB
      have U10 := Lib.hid (Fr0.trans U0.out hf)
      clear hB hf hg
      refine hK.out _ _ U10.out ?_
      clear hK
      try simp only [Act.put, List.setIfInBounds_toArray, List.set_cons_zero, List.set_cons_succ]
      have _hI : True := trivial
      clear _hI
      refine wpAnyH_ready (rs := [6]) (by kernel_rfl) (by simp) (consG rfl rfl (fun K hK => ?_) AllReadyH.nil)
      have _hI : True := trivial
      clear _hI
      refine wp_built_blk 22 28 _ _ rfl #[] (fun W => by go_simp; try rfl) ?_
      intro ge Wn11 hB hf hg
      have NEB := Lib.hid (show ge ≠ gb from by have := (GB.out).lt; omega)
      replace GB := Lib.hid ((GB.out).fr0 hf)
      have E := Lib.hid (show DsG (fun _ v t => RdB w v t) wq.heap.size Wn11 (.slice (some ⟨ge, 0, none⟩) 0 0) [] from ⟨[], rfl, own_empty hB (Nat.le_trans (U10.out).size hg), fun y hy => by cases hy⟩)
      have U11 := Lib.hid (Fr0.trans U10.out hf)
      clear hB hf hg
      refine hK.out _ _ U11.out ?_
      clear hK
      try simp only [Act.put, List.setIfInBounds_toArray, List.set_cons_zero, List.set_cons_succ]
      have _hI : True := trivial
      clear _hI
      refine wpAnyH_ready (rs := [9]) (by kernel_rfl) (by simp) (consG rfl rfl (fun K hK => ?_) AllReadyH.nil)
      have _hI : True := trivial
      clear _hI
      refine wp_append_ds (n := 0) (m := n) (l2 := tv) _ _ rfl (U11.out).size E.out rfl rfl TVL.out ((TVR.out).fr0 (Fr0.trans FQ.out U11.out)) rfl (fun y hy => (TVX.out y hy).fr0 (Fr0.trans FQ.out U11.out)) (by omega) (fun w' hf v t h => h) (fun w' hf y hy => TVX.out y hy) ?_
      intro A9 c9 Wn12 hD hF
      have P := Lib.hid (show DsG (fun _ v t => RdB w v t) wq.heap.size Wn12 (.slice A9 (0 + n) c9) l from by have h := hD; rw [TVE.out, List.nil_append] at h; exact h)
      have hf0 := hF
      have UN12 := Lib.hid (show Fr0 wq Wn12 from Fr.then U11.out hF (fun i hi hl => by have := (E.out.lo i hi).1; omega))
      replace GB := Lib.hid ((GB.out).fr hF (fun hi => NEB.out (by injection hi)))
      clear hD hF hf0
      refine hK.out _ _ UN12.out ?_
      clear hK
      try simp only [Act.put, List.setIfInBounds_toArray, List.set_cons_zero, List.set_cons_succ]
      have _hI : True := trivial
      clear _hI
      refine wpAnyH_ready (rs := [12]) (by kernel_rfl) (by simp) (consG rfl rfl (fun K hK => ?_) AllReadyH.nil)
      have _hI : True := trivial
      clear _hI
      refine wp_append_ds (n := 0 + n) (m := 1) (l2 := [(.slice Bd x.t.length ed, x)]) _ _ rfl (UN12.out).size P.out rfl (by rw [HNL.out, Nat.zero_add]) rfl (rd_dd GB.out) rfl (fun y hy => by rw [List.mem_singleton] at hy; subst hy; exact (HDT.out).fr0 (Fr0.trans FQ.out UN12.out)) (by omega) (fun w' hf v t h => h) (fun w' hf y hy => by rw [List.mem_singleton] at hy; subst hy; exact HDT.out) ?_
      intro A12 c12 Wn13 hD hF
      have UN13 := Lib.hid (show Fr0 wq Wn13 from Fr.then UN12.out hF (fun i hi hl => by have := (P.out.lo i hi).1; omega))
      have D12 := Lib.hid (show Ds Wn13 (.slice A12 (n + 1) c12) (l ++ [x]) from by rw [Nat.zero_add] at hD; obtain ⟨tw, h1, h2, h3⟩ := hD; exact ⟨tw, h1, by have h4 := Rd.of_own h2; rw [show tw.length = n + 1 from by have := congrArg List.length h1; rw [List.length_map] at this; simp [HNL.out] at this; omega] at h4 ⊢; exact h4, fun y hy => (h3 y hy).fr0 (Fr0.trans FQ.out UN13.out)⟩)
      clear hD hF
      refine hK.out _ _ UN13.out ?_
      clear hK
      try simp only [Act.put, List.setIfInBounds_toArray, List.set_cons_zero, List.set_cons_succ]
      have _hI : True := trivial
      clear _hI
      refine takeH (i := 13) rfl (by kernel_rfl) (by kernel_rfl) (by kernel_rfl) (fun _ _ _ h => h) (v := .agg #[.int .i64 b, .slice A12 (n + 1) c12]) (.inl ⟨rfl, fun W hW => (by go_simp; try rfl)⟩) UN13.out ?_
      try simp only [Act.put, List.setIfInBounds_toArray, List.set_cons_zero, List.set_cons_succ]
      have _hI : True := trivial
      clear _hI
      refine wpAnyH_ready (rs := [14]) (by kernel_rfl) (by simp) (consG rfl rfl (fun K hK => ?_) AllReadyH.nil)
      have _hI : True := trivial
      clear _hI
      go_simp
      refine (HSA.out _ _ _ UN13.out D12.out).mono ?_
      rintro e Wn14 ⟨rfl, hf⟩
      have U14 := Lib.hid (Fr0.trans UN13.out hf)
      clear hf
      refine hK.out _ _ U14.out ?_
      clear hK
      try simp only [Act.put, List.setIfInBounds_toArray, List.set_cons_zero, List.set_cons_succ]
      have _hI : True := trivial
      clear _hI
      refine takeH (i := 15) rfl (by kernel_rfl) (by kernel_rfl) (by kernel_rfl) (fun _ _ _ h => h) (v := .bool false) (.inl ⟨rfl, fun W hW => (by go_simp; try rfl)⟩) U14.out ?_
      try simp only [Act.put, List.setIfInBounds_toArray, List.set_cons_zero, List.set_cons_succ]
      have _hI : True := trivial
      clear _hI
      refine takeH (i := 16) rfl (by kernel_rfl) (by kernel_rfl) (by kernel_rfl) (fun _ _ _ h => h) (.inl ⟨rfl, fun W hW => (by go_simp; try rfl)⟩) U14.out ?_
      try simp only [Act.put, List.setIfInBounds_toArray, List.set_cons_zero, List.set_cons_succ]
      refine wpAnyH_done (by kernel_rfl) ?_ _
      go_wp2_with fail
      go_meet
      exact Fr0.trans F9Q.out U14.out
  case rest =>
    have FC0 := Lib.hid hcut
    clear hcut
    have HGX := Lib.hid (show (!(decide (s = true ∧ b ≤ m ∧ m ≤ b + (n : Int)))) = (!(decide (s = true ∧ b ≤ m ∧ m ≤ b + (n : Int)))) from rfl)
    obtain ⟨gx, hgx⟩ : ∃ q, q = (!(decide (s = true ∧ b ≤ m ∧ m ≤ b + (n : Int)))) := ⟨_, rfl⟩
    replace HGX := Lib.hid hgx
    clear hgx
    obtain ⟨wk, hwk⟩ : ∃ q, q = wc := ⟨_, rfl⟩
    rw [← hwk] at FC0 ⊢
    have X10 := Lib.hid ((X9.out).fr0 FC0.out)
    have x0 := (X10.out).cell 0 rfl
    have x1 := (X10.out).cell 1 rfl
    clear hwk
    go_upto_region 18 with (fail)
    go_cut [120] (fun s120 wx => s120 = .bool gx ∧ wk = wx)
    case first =>
      cases s
      case false =>
        have HV := Lib.hid (show gx = true by rw [HGX.out]; simp)
        go_wp2_with fail
        go_meet
        exact ⟨by rw [HV.out], rfl⟩
      obtain ⟨i1, i2, i3, -⟩ := (BN.out) rfl
      have w1 : IntKind.i64.wrap (b + (n : Int)) = b + (n : Int) := by rw [IntKind.wrap_i64]; omega
      by_cases h1 : m < b
      · have b1 : decide (m < b) = true := by simpa using h1
        have HV := Lib.hid (show gx = true by rw [HGX.out, decide_eq_false (by omega)]; rfl)
        clear h1
        go_wp2_with fail
        go_meet
        exact ⟨by rw [HV.out], rfl⟩
      have b1 : decide (m < b) = false := by simpa using h1
      by_cases h2 : b + (n : Int) < m
      · have b2 : decide (b + (n : Int) < m) = true := by simpa using h2
        have HV := Lib.hid (show gx = true by rw [HGX.out, decide_eq_false (by omega)]; rfl)
        clear h1 h2
        go_wp2_with fail
        go_meet
        exact ⟨by rw [HV.out], rfl⟩
      · have b2 : decide (b + (n : Int) < m) = false := by simpa using h2
        have HV := Lib.hid (show gx = false by rw [HGX.out, decide_eq_true ⟨rfl, by omega, by omega⟩]; rfl)
        clear h1 h2
        go_wp2_with fail
        go_meet
        exact ⟨by rw [HV.out], rfl⟩
    case rest =>
      obtain ⟨rfl, rfl⟩ := hcut
      go_upto_if 120 with (fail)
      go_cut [] (fun wx => Fr0 w9 wx)
      case first =>
        have FC := Lib.hid FC0.out
        have YC := Lib.hid ((Y79.out).fr0 FC.out)
        have c0 := (YC.out).cell 0 rfl
        have c1 := (YC.out).cell 1 rfl
        have DC := Lib.hid ((D79.out).fr0 FC.out)
        cases gx
        case true =>
          have HV : (pC, lC, eC) = ((0 : Int), ([] : List Dd), (2 : Int)) := by
            rw [HPC.out, if_neg]
            intro hh
            have h2 := HGX.out
            rw [decide_eq_true hh] at h2; cases h2
          obtain ⟨rfl, h⟩ := Prod.mk.inj HV
          obtain ⟨rfl, rfl⟩ := Prod.mk.inj h
          obtain rfl : nC = 0 := HNC.out
          clear HV h HPA HPC HLN BN HRS0 HRS1
          go_wp2_with (first
            | (go_at_call 16; refine (HSE.out _ _ _ DC.out).mono ?_; rintro e w11 ⟨rfl, hf⟩; have F11 := Lib.hid (Fr0.trans FC.out hf); clear hf))
          go_meet
          exact F11.out
        case false =>
          have hcond : s = true ∧ b ≤ m ∧ m ≤ b + (n : Int) := by
            by_cases hh : s = true ∧ b ≤ m ∧ m ≤ b + (n : Int)
            · exact hh
            · have h2 := HGX.out
              rw [decide_eq_false hh] at h2; cases h2
          have HV : (pC, lC, eC) = (m, LN, (0 : Int)) := by rw [HPC.out, if_pos hcond]
          obtain ⟨hpc, h⟩ := Prod.mk.inj HV
          have hpc2 : m = pC := hpc.symm
          subst hpc2
          obtain ⟨hlc, rfl⟩ := Prod.mk.inj h
          have hlc2 : LN = lC := hlc.symm
          subst hlc2
          have hnn : nL = nC := by rw [HNC.out, HNLL.out]
          subst hnn
          obtain rfl : s = true := hcond.1
          have HRS := Lib.hid (fun W (hf : Fr0 wk.drew W) => HRS0.out W rfl (Fr0.trans FW9.out (Fr0.trans FC.out (Fr0.trans ((Fr0.refl wk).drew) hf))))
          have HSC := Lib.hid (fun W B' c' (hf : Fr0 wk.drew W) (hd : Ds W (.slice B' nL c') LN) => show Calls Try.prog 16 #[.agg #[.int .i64 m, .slice B10 nL c10], .agg #[.int .i64 m, .slice B' nL c']] W fun e w' => e = .returned (.bool true) ∧ Fr0 W w' from by
            have h2 := (DC.out).fr0 (Fr0.trans ((Fr0.refl wk).drew) hf)
            rw [HNLL.out] at hd h2 ⊢
            have := rsame_any (b := m) (b2 := m) h2 hd
            rwa [decide_eq_true ⟨rfl, rfl⟩] at this)
          have FCQ := Lib.hid (show Fr0 w9 wk.drew from (FC.out).drew)
          have YC' := Lib.hid ((YC.out).drew)
          have YX := Lib.hid ((X10.out).drew)
          replace YC := YC'
          clear HV h hpc hlc HPA HPC HLN BN HRS0 HRS1 YC' DC c0 c1 x0 x1 hcond
          go_upto_region 21 with (fail)
          refine wp_region_held_drew (S := (fun W => Fr0 wk.drew W)) (by kernel_rfl) (Fr0.refl _) (fun hHeld => ?_)
          generalize wk.drew = wq at *
          have U0 := Lib.hid (Fr0.refl wq)
          have _hI : True := trivial
          clear _hI
          refine takeH (i := 0) rfl (by kernel_rfl) (by kernel_rfl) (by kernel_rfl) (fun _ _ _ h => h) (.inl ⟨rfl, fun W hW => (by go_simp; try rfl)⟩) (Fr0.refl wq) ?_
          try simp only [Act.put, List.setIfInBounds_toArray, List.set_cons_zero, List.set_cons_succ]
          have _hI : True := trivial
          clear _hI
          refine takeH (i := 1) rfl (by kernel_rfl) (by kernel_rfl) (by kernel_rfl) (fun _ _ _ h => h) (v := .bool false) (.inl ⟨rfl, fun W hW => (by go_simp; try rfl)⟩) (Fr0.refl wq) ?_
          try simp only [Act.put, List.setIfInBounds_toArray, List.set_cons_zero, List.set_cons_succ]
          have _hI : True := trivial
          clear _hI
          refine takeH (i := 2) rfl (by kernel_rfl) (by kernel_rfl) (by kernel_rfl) (fun _ _ _ h => h) (.inl ⟨rfl, fun W hW => (by go_simp; try rfl)⟩) (Fr0.refl wq) ?_
          try simp only [Act.put, List.setIfInBounds_toArray, List.set_cons_zero, List.set_cons_succ]
          have _hI : True := trivial
          clear _hI
          refine takeH (i := 3) rfl (by kernel_rfl) (by kernel_rfl) (by kernel_rfl) (fun _ _ _ h => h) (yieldsW_load_blk rfl 24 _ rfl g10 rfl 24 #[.int .i64 m, .slice B10 nL c10] (fun W hW => (YC.out).fr0 hW) _ Try.underlying24 rfl (by kernel_rfl)) (Fr0.refl wq) ?_
          try simp only [Act.put, List.setIfInBounds_toArray, List.set_cons_zero, List.set_cons_succ]
          have _hI : True := trivial
          clear _hI
          refine takeH (i := 4) rfl (by kernel_rfl) (by kernel_rfl) (by kernel_rfl) (fun _ _ _ h => h) (.inl ⟨rfl, fun W hW => (by go_simp; try rfl)⟩) (Fr0.refl wq) ?_
          try simp only [Act.put, List.setIfInBounds_toArray, List.set_cons_zero, List.set_cons_succ]
          have _hI : True := trivial
          clear _hI
          refine takeH (i := 5) rfl (by kernel_rfl) (by kernel_rfl) (by kernel_rfl) (fun _ _ _ h => h) (yieldsW_load_blk rfl 24 _ rfl w.heap.size rfl 24 #[.int .i64 b, .slice A n c] (fun W hW => (YX.out).fr0 hW) _ Try.underlying24 rfl (by kernel_rfl)) (Fr0.refl wq) ?_
          try simp only [Act.put, List.setIfInBounds_toArray, List.set_cons_zero, List.set_cons_succ]
          have _hI : True := trivial
          clear _hI
          refine takeH (i := 6) rfl (by kernel_rfl) (by kernel_rfl) (by kernel_rfl) (fun _ _ _ h => h) (.inl ⟨rfl, fun W hW => (by go_simp; try rfl)⟩) (Fr0.refl wq) ?_
          try simp only [Act.put, List.setIfInBounds_toArray, List.set_cons_zero, List.set_cons_succ]
          have _hI : True := trivial
          clear _hI
          refine wpAnyH_ready (rs := [7]) (by kernel_rfl) (by simp) (consG rfl rfl (fun K hK => ?_) AllReadyH.nil)
          have _hI : True := trivial
          clear _hI
          go_simp
          refine (HRS.out _ U0.out).mono ?_
          rintro e Wn61 ⟨B6, c6, rfl, hd, hf⟩
          have D6 := Lib.hid hd
          have U61 := Lib.hid (Fr0.trans U0.out hf)
          clear hf hd
          refine hK.out _ _ U61.out ?_
          clear hK
          try simp only [Act.put, List.setIfInBounds_toArray, List.set_cons_zero, List.set_cons_succ]
          have _hI : True := trivial
          clear _hI
          refine takeH (i := 8) rfl (by kernel_rfl) (by kernel_rfl) (by kernel_rfl) (fun _ _ _ h => h) (v := .agg #[.int .i64 m, .slice B6 nL c6]) (.inl ⟨rfl, fun W hW => (by go_simp; try rfl)⟩) U61.out ?_
          try simp only [Act.put, List.setIfInBounds_toArray, List.set_cons_zero, List.set_cons_succ]
          have _hI : True := trivial
          clear _hI
          refine wpAnyH_ready (rs := [9]) (by kernel_rfl) (by simp) (consG rfl rfl (fun K hK => ?_) AllReadyH.nil)
          have _hI : True := trivial
          clear _hI
          go_simp
          refine (HSC.out _ _ _ U61.out D6.out).mono ?_
          rintro e Wn62 ⟨rfl, hf⟩
          have U62 := Lib.hid (Fr0.trans U61.out hf)
          clear hf
          refine hK.out _ _ U62.out ?_
          clear hK
          try simp only [Act.put, List.setIfInBounds_toArray, List.set_cons_zero, List.set_cons_succ]
          have _hI : True := trivial
          clear _hI
          refine takeH (i := 10) rfl (by kernel_rfl) (by kernel_rfl) (by kernel_rfl) (fun _ _ _ h => h) (v := .bool false) (.inl ⟨rfl, fun W hW => (by go_simp; try rfl)⟩) U62.out ?_
          try simp only [Act.put, List.setIfInBounds_toArray, List.set_cons_zero, List.set_cons_succ]
          have _hI : True := trivial
          clear _hI
          refine takeH (i := 11) rfl (by kernel_rfl) (by kernel_rfl) (by kernel_rfl) (fun _ _ _ h => h) (.inl ⟨rfl, fun W hW => (by go_simp; try rfl)⟩) U62.out ?_
          try simp only [Act.put, List.setIfInBounds_toArray, List.set_cons_zero, List.set_cons_succ]
          refine wpAnyH_done (by kernel_rfl) ?_ _
          go_wp2_with fail
          go_meet
          exact Fr0.trans FCQ.out U62.out
      case rest =>
        have FK := Lib.hid hcut
        clear hcut
        obtain ⟨wm, hwm⟩ : ∃ q, q = wc := ⟨_, rfl⟩
        rw [← hwm] at FK ⊢
        clear hwm FC0 X10 HGX HPA HPC D79 Y79 x0 x1 FD9 HSE
        have X11 := Lib.hid ((X9.out).fr0 FK.out)
        have x0 := (X11.out).cell 0 rfl
        have x1 := (X11.out).cell 1 rfl
        have D8K := Lib.hid ((D89.out).fr0 FK.out (fun v t h => h.fr0 FK.out))
        have D6K := Lib.hid ((D69.out).fr0 FK.out (fun v t h => h.fr0 FK.out))
        have Y6K := Lib.hid ((Y69.out).fr0 FK.out)
        have GK := Lib.hid (Fr0.trans G9.out FK.out)
        have FWK := Lib.hid (Fr0.trans FW9.out FK.out)
        clear X9 D89 D69 Y69 G9 FK Y59 D59 Z9 DA9 FW9
        refine (‹∀ (a : Act) (w : World), Code.wp Try.prog _ _ a w → _› _ _ ?_)
        exact inputEdits_tail _ _ _ _ _ _ _ _ _ _ _ _ _ _ _ _ _ _ _ _ _ _ _ _ _ _ _ _ _ _ _ _ _ _ _ _ _ _ _ _ _ _ _ _ _ _ _ _ _ _ _ _ _ _ _ _ _ _ _ _ _ _ _ _ _ _ _ _ _ _ _ _ _ _ _ _ _ _ _ _ _ _ _ _ _ _ _ _ _ _ _ _ _ _ _ _ _ _ _ _ _ _ _ _ _ _ _ _ _ _ _ _ _ _ _ _ _ _ _ _ _ _ _ _ _ _ _ _ _ _ _ _ _ _ _ _ _ _ _ _ _ _ _ _ _ _ _ _ _ _ _ _ _ _ _ _ _ _ _ _ _ _ _ _ _ _ _ _ _ _ _ _ _ _ _ _ _ _ _ _ _ _ _ _ _ _ _ _ _ _ _ _ X11 D8K D6K Y6K GK FWK X5 D5 F5 Y5 HSL HRS1 HLN HNLL HNA i5 i6
namespace InputEdits
open Go.ChangeShapes Go.WideShapes Go.ChangeAt
open Go.ChangeMaps (open_string shut_string)

theorem own : ownKnob Try.prog.godebug = none := by kernel_rfl
theorem laidOut : laidOutB Try.prog = true := by kernel_rfl

set_option maxRecDepth 100000 in
theorem lifted (os : Os) (started : os.Started) (H : Type) (enc : TypeId × Value → H) :
    ReturnsInHanded {} Try.checked os 3 .any (Rows.inputEditsSpec.pre6 enc Try.prog Try.f3 Rows.inputEditsRow.domain false) (Rows.inputEditsSpec.post enc Try.prog Try.f3 false true false false) := by
  refine returnsInHanded_of_change (C := Try.checked) own started (by kernel_rfl) Try.func3
    (ChangeSpec.witness6 (enc := enc) (C := Try.checked) false ⟨#[], #[.agg #[.int .i64 0, .slice none 0 0], .agg #[.int .i64 0, .slice none 0 0, .int .i64 0, .int .i64 0], .int .i64 0], []⟩ 8 (by kernel_rfl) (by kernel_rfl) (by kernel_rfl) (by kernel_rfl)) ?_
  intro W base args ds gs before hval0 hW hcnd _
  have hval : ∀ (j : Nat) t v, Try.f3.params[j]? = some t → args[j]? = some v → Value.okWide Try.prog W .any base t v := hval0
  have hW' := hW
  obtain ⟨p, q, hA0, hV, rfl, hfz, hnd⟩ := hW
  have hA : DataW.TrodAll enc Try.prog W 0 (fun _ => true) true Try.f3.params.toList args.toList ds p := hA0
  rw [Try.params3] at hA hval
  obtain ⟨v0, vs0, d0', ds0, p0, q0, hargs, rfl, rfl, h0, r0⟩ := trodAll_cons hA
  obtain ⟨v1, vs1, d1', ds1, p1, q1, rfl, rfl, rfl, h1, r1⟩ := trodAll_cons r0
  obtain ⟨v2, vs2, d2', ds2, p2, q2, rfl, rfl, rfl, h2, r2⟩ := trodAll_cons r1
  obtain ⟨rfl, rfl, rfl⟩ := trodAll_nil r2
  obtain rfl : args = #[v0, v1, v2] := by cases args; simp_all
  obtain ⟨rfl, rfl⟩ := trodVars_none hV
  have k0 := h0
  have lt0 : ∀ x ∈ p0, x.block < W.heap.size := by obtain ⟨m, hm⟩ := k0; exact DataW.trod_lt m _ _ _ hm
  obtain ⟨b0, sv0, l0, rfl, hy0, hb0⟩ := arg_stream (hval 0 24 v0 rfl rfl) h0
  have k1 := h1
  have lt1 : ∀ x ∈ p1, x.block < W.heap.size := by obtain ⟨m, hm⟩ := k1; exact DataW.trod_lt m _ _ _ hm
  obtain ⟨dv1, x1, rfl, hy1⟩ := arg_deed (hval 1 28 v1 rfl rfl) h1
  obtain ⟨n2, rfl, rfl, rfl, hn2⟩ := open_int Try.underlying3 (hval 2 3 v2 rfl rfl) h2
  have hm2 := lit_i64 hn2
  clear hA0 hval0
  refine (inputEdits_any hy0 hy1 hm2).mono fun e W' ⟨he, hfr⟩ => ?_
  have bel : Below W.heap.size W W' := Fr0.below hfr
  subst he
  exact ⟨_, rfl, _, _, _, [], _, [], hW', trodAll_mk1 (shut_bool Try.underlying4 _), (trodAll_cons_mk (Below.trod laidOut (by kernel_rfl) (of_decide_eq_true (by kernel_rfl)) k0 bel lt0) (trodAll_cons_mk (Below.trod laidOut (by kernel_rfl) (of_decide_eq_true (by kernel_rfl)) k1 bel lt1) (trodAll_cons_mk (shut_int Try.underlying3 hn2) trodAll_mk0))), rfl, bel.frame _, fun h => by cases h⟩

theorem over : Rows.inputEditsRow.holds Try.pinned (OpenSpec.ofChange Rows.inputEditsSpec) :=
  OpenClaim.holds_of_wide 3 Try.f3 rfl rfl rfl rfl rfl rfl rfl ⟨rfl, rfl, rfl, rfl, rfl⟩ rfl rfl rfl rfl rfl (by kernel_rfl) Try.func3 (by kernel_rfl)
    (of_decide_eq_true (by kernel_rfl)) (by unfold Func.isWrapper; first | (rw [if_pos (by decide +kernel)]; kernel_rfl) | (rw [if_neg (by decide +kernel)]; exact ⟨rfl, rfl⟩))
    (fun os started H enc _ => lifted os started H enc)

theorem proved : Rows.InputEditsSaid := over
#print axioms proved
end InputEdits
end Go.Proofs.Ytcbllkkbpjobpaa
