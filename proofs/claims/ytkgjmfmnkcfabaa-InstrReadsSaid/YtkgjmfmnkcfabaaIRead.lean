/- instr.Read. Conditions stand in the statements. -/
import Derived.Test.YtkgjmfmnkcfabaaIForm
import Derived.Laws.ResultCell
namespace Go.Proofs.Ytkgjmfmnkcfabaa
open Go.RowKit

theorem numI_bound (n : Nat) : -1 ≤ numI n ∧ numI n ≤ 1099511627776 := by unfold numI; split <;> omega
theorem rNum_left2 (d : List UInt8) (e : Int) : (rNum d e).2.1.length ≤ d.length := by
  unfold rNum; split
  · simp
  · split <;> simp
theorem rNum_lt2 (d : List UInt8) (e : Int) : (rNum d e).1 < 18446744073709551616 := by
  rcases rNum_cases d e with ⟨_, _, _, h⟩ | ⟨_, h⟩
  · exact h
  · omega
theorem rRest_err2 (d : List UInt8) (e : Int) : (rRest d e).2.2 = e ∧ (rRest d e).1.length ≤ d.length := by
  unfold rRest; split
  · simp
  · rename_i h; simp at h; simp [h]

theorem fr_set5 {w w1 : World} (h : Fr0 w w1) {b : Nat} (hb : w.heap.size ≤ b) (x0 x1 x2 x3 x4 : Value) : Fr0 w (((((w1.setCell ⟨b, 0, none⟩ x0).setCell ⟨b, 1, none⟩ x1).setCell ⟨b, 2, none⟩ x2).setCell ⟨b, 3, none⟩ x3).setCell ⟨b, 4, none⟩ x4) :=
  Fr.setCell (p := ⟨b, 4, none⟩) (Fr.setCell (p := ⟨b, 3, none⟩) (Fr.setCell (p := ⟨b, 2, none⟩) (Fr.setCell (p := ⟨b, 1, none⟩) (Fr.setCell (p := ⟨b, 0, none⟩) h (.inr hb) x0) (.inr hb) x1) (.inr hb) x2) (.inr hb) x3) (.inr hb) x4
theorem fr_set5' {w w1 : World} {b : Nat} (h : Fr1 b w w1) (x0 x1 x2 x3 x4 : Value) : Fr1 b w (((((w1.setCell ⟨b, 0, none⟩ x0).setCell ⟨b, 1, none⟩ x1).setCell ⟨b, 2, none⟩ x2).setCell ⟨b, 3, none⟩ x3).setCell ⟨b, 4, none⟩ x4) :=
  ((((h.set 0 x0).set 1 x1).set 2 x2).set 3 x3).set 4 x4
theorem blk_set5 {w1 : World} {b : Nat} {a0 a1 a2 a3 a4 : Value} {t : TypeId} (h : Blk w1 b #[a0, a1, a2, a3, a4] t) (x0 x1 x2 x3 x4 : Value) :
    Blk (((((w1.setCell ⟨b, 0, none⟩ x0).setCell ⟨b, 1, none⟩ x1).setCell ⟨b, 2, none⟩ x2).setCell ⟨b, 3, none⟩ x3).setCell ⟨b, 4, none⟩ x4) b #[x0, x1, x2, x3, x4] t :=
  ((((h.set 0 x0).set 1 x1).set 2 x2).set 3 x3).set 4 x4
theorem iret {tmps : Array Value} {W : World} {g : Nat} {cs : Array Value} {u : Value} (hg : Blk W g cs 25) (hs : cs.size = 5) (h2 : tmps.getD 2 undef = .pointer (some ⟨g, 0, none⟩)) (h3 : tmps.getD 3 undef = u) :
    (results Try.f8 tmps).run Try.prog W = .ok (.tuple #[.agg cs, u]) W := by
  rw [results_cell_tmp rfl, h2, h3]
  have hl := run_loadVar_row (P := Try.prog) W g 25 25 cs (0, 0) _ hg Try.underlying25 rfl (by rw [hs]; kernel_rfl)
  simp [asAddr, Result.andThen, hl]

set_option maxHeartbeats 400000 in
theorem read1_any {p b0 : Nat} {A : Option Addr} {c : Nat} {d : List UInt8} {e : Int} {w : World} (h : RdrV w p A c d e) (hn : d.length ≤ 1000000) (hb : Blk w b0 #[.pointer (some ⟨p, 0, none⟩)] 37) :
    Calls Try.prog 17 #[.pointer (some ⟨b0, 0, none⟩)] w fun x w' => x = .returned (.int .i64 (numI (rNum d e).1)) ∧ Fr1 p w w' ∧ ∃ A' c', RdrV w' p A' c' (rNum d e).2.1 (rNum d e).2.2 := by
  have c0 : w.cell? ⟨b0, 0, none⟩ = some (.pointer (some ⟨p, 0, none⟩)) := hb.cell 0 rfl
  have hN := Lib.hid (rnum_any h (by omega))
  have hlt := rNum_lt2 d e
  have hI : numI (rNum d e).1 = if (rNum d e).1 ≤ 1099511627776 then ((rNum d e).1 : Int) else -1 := rfl
  have HI := Lib.hid hI
  obtain ⟨N, hNN⟩ : ∃ N, N = rNum d e := ⟨_, rfl⟩
  rw [← hNN] at hN hlt HI ⊢
  clear h hb hNN hI
  by_cases hle : N.1 ≤ 1099511627776
  · have q0 : decide ((N.1 : Int) ≤ 1099511627776) = true := by simp; omega
    have q1 : decide (N.1 ≤ 1099511627776) = true := by simpa using hle
    have y0 : IntKind.i64.wrap (N.1 : Int) = N.1 := IntWalk.i64_in _ (by omega)
    have HI2 := Lib.hid ((HI.out).trans (if_pos hle))
    clear hle
    go_enter Try.func17, Try.ntmps17
    go_wp2_with (go_at_call 18; refine (hN.out).mono ?_; rintro x w2 ⟨rfl, hf, hr⟩; have F := Lib.hid hf; have R := Lib.hid hr; clear hf hr)
    go_ret
    exact ⟨by rw [HI2.out]; rfl, F.out, R.out⟩
  · have q0 : decide ((N.1 : Int) ≤ 1099511627776) = false := by simp; omega
    have q1 : decide (N.1 ≤ 1099511627776) = false := by simpa using hle
    have HI2 := Lib.hid ((HI.out).trans (if_neg hle))
    clear hle
    go_enter Try.func17, Try.ntmps17
    go_wp2_with (go_at_call 18; refine (hN.out).mono ?_; rintro x w2 ⟨rfl, hf, hr⟩; have F := Lib.hid hf; have R := Lib.hid hr; clear hf hr)
    go_ret
    exact ⟨by rw [HI2.out]; rfl, F.out, R.out⟩

set_option maxHeartbeats 4000000 in
set_option maxRecDepth 100000 in
theorem iread_any {v : Value} {b : List UInt8} {w : World} (hb : RdB w v b) (hn : b.length ≤ 1000000) :
    Calls Try.prog 8 #[v] w fun e w' => Fr0 w w' ∧ ((¬ iGood b ∧ e = .returned (.tuple #[.agg #[.int .i64 0, .int .i64 0, .int .i64 0, .int .i64 0, .slice none 0 0], .int .i64 4])) ∨
      (iGood b ∧ ∃ A c, e = .returned (.tuple #[.agg #[.int .i64 (numI (iNums b).1.1), .int .i64 (numI (iNums b).1.1 + numI (iNums b).1.2.1), .int .i64 (numI (iNums b).1.2.2.1), .int .i64 (numI (iNums b).1.1 - numI (iNums b).1.2.2.2), .slice A (iNums b).2.1.length c], .int .i64 0]) ∧ RdB w' (.slice A (iNums b).2.1.length c) (iNums b).2.1)) := by
  obtain ⟨⟨n1, d1, e1⟩, h1⟩ : ∃ x, x = rNum b 0 := ⟨_, rfl⟩
  obtain ⟨⟨n2, d2, e2⟩, h2⟩ : ∃ x, x = rNum d1 e1 := ⟨_, rfl⟩
  obtain ⟨⟨n3, d3, e3⟩, h3⟩ : ∃ x, x = rNum d2 e2 := ⟨_, rfl⟩
  obtain ⟨⟨n4, d4, e4⟩, h4⟩ : ∃ x, x = rNum d3 e3 := ⟨_, rfl⟩
  have hN : iNums b = ((n1, n2, n3, n4), (rRest d4 e4).1, e4) := by
    unfold iNums; simp only; rw [← h1]; simp only; rw [← h2]; simp only; rw [← h3]; simp only; rw [← h4]
  have l1 := rNum_left2 b 0
  rw [← h1] at l1
  have l2 := rNum_left2 d1 e1
  rw [← h2] at l2
  have l3 := rNum_left2 d2 e2
  rw [← h3] at l3
  have l4 := rNum_left2 d3 e3
  rw [← h4] at l4
  simp only at l1 l2 l3 l4
  obtain ⟨r1, r2⟩ := rRest_err2 d4 e4
  obtain ⟨⟨rs, rd', re⟩, h5⟩ : ∃ x, x = rRest d4 e4 := ⟨_, rfl⟩
  rw [← h5] at r1 r2 hN
  simp only at r1 r2 hN
  subst r1
  obtain ⟨o, ho⟩ : ∃ o, o = numI n1 := ⟨_, rfl⟩
  obtain ⟨m, hm⟩ : ∃ o, o = numI n2 := ⟨_, rfl⟩
  obtain ⟨k, hk⟩ : ∃ o, o = numI n3 := ⟨_, rfl⟩
  obtain ⟨l, hl⟩ : ∃ o, o = numI n4 := ⟨_, rfl⟩
  have bo := numI_bound n1
  have bm := numI_bound n2
  have bl := numI_bound n4
  rw [← ho] at bo
  rw [← hm] at bm
  rw [← hl] at bl
  have hG : iGood b ↔ (re = 0 ∧ 0 ≤ m ∧ 0 ≤ l ∧ may o (o + m) k (o - l) rs.length = 0) := by unfold iGood; rw [hN]; simp only; rw [← ho, ← hm, ← hk, ← hl]
  rw [hG, hN]
  simp only
  rw [← ho, ← hm, ← hk, ← hl]
  have y1 : IntKind.i64.wrap (o + m) = o + m := IntWalk.i64_in _ (by omega)
  have y2 : IntKind.i64.wrap (o - l) = o - l := IntWalk.i64_in _ (by omega)
  have H1 := Lib.hid h1
  have H2 := Lib.hid h2
  have H3 := Lib.hid h3
  have H4 := Lib.hid h4
  have H5 := Lib.hid h5
  have HO := Lib.hid ho
  have HM := Lib.hid hm
  have HK := Lib.hid hk
  have HL := Lib.hid hl
  have B := Lib.hid hb
  have hO := Lib.hid (openR_any (hb.fr0 ((Fr0.refl w).alloc (.cells #[.int .i64 0, .int .i64 0, .int .i64 0, .int .i64 0, .slice none 0 0] 25))) (by omega))
  obtain ⟨Ab, cb, rfl, -, -, -⟩ := hb.form
  obtain ⟨tl, htl⟩ : ∃ tl, tl = rs.length := ⟨_, rfl⟩
  rw [← htl] at r2
  have HMay := Lib.hid (fun (A : Option Addr) (c : Nat) (w' : World) => may_any o (o + m) k (o - l) A rs.length c w')
  obtain ⟨my, hmy⟩ : ∃ my, my = may o (o + m) k (o - l) rs.length := ⟨_, rfl⟩
  rw [← hmy] at HMay
  have HMY := Lib.hid hmy
  clear h1 h2 h3 h4 h5 ho hm hk hl hb hG hN htl hmy
  go_enter Try.func8, Try.ntmps8
  go_upto_region 5 with (first
    | (go_at_call 16; refine (hO.out).mono ?_; rintro x w1 ⟨p, A, c, rfl, hr, hf, hp, hp2⟩; have Z := Lib.hid (Blk.fr0 (Blk.new w #[.int .i64 0, .int .i64 0, .int .i64 0, .int .i64 0, .slice none 0 0] 25) hf); have P := Lib.hid (Nat.lt_of_lt_of_le (show w.heap.size < (w.alloc (.cells #[.int .i64 0, .int .i64 0, .int .i64 0, .int .i64 0, .slice none 0 0] 25)).heap.size by simp) hp); have F := Lib.hid ((((Fr0.refl w).alloc _).trans hf)); have PX := Lib.hid hp2; have R := Lib.hid hr; clear hr hf hp hp2)
    | (have _q := T3; go_at_call 17; refine (read1_any R.out (by omega) X.out).mono ?_; rintro x w5 ⟨he, hf, A', c', hr⟩; rw [← H4.out] at he hr; simp only at he hr; rw [← HL.out] at he; subst he; replace F := Lib.hid ((F.out).new hf (Nat.le_of_lt P.out)); replace X := Lib.hid ((X.out).fr1 hf (Nat.ne_of_gt PB.out)); replace Z := Lib.hid ((Z.out).fr1 hf (Nat.ne_of_lt P.out)); replace R := Lib.hid hr; have cX : w5.cell? ⟨w1.heap.size, 0, none⟩ = some (.pointer (some ⟨p, 0, none⟩)) := (X.out).cell 0 rfl; clear hf hr)
    | (have _q := T2; go_at_call 17; refine (read1_any R.out (by omega) X.out).mono ?_; rintro x w4 ⟨he, hf, A', c', hr⟩; rw [← H3.out] at he hr; simp only at he hr; rw [← HK.out] at he; subst he; replace F := Lib.hid ((F.out).new hf (Nat.le_of_lt P.out)); replace X := Lib.hid ((X.out).fr1 hf (Nat.ne_of_gt PB.out)); replace Z := Lib.hid ((Z.out).fr1 hf (Nat.ne_of_lt P.out)); replace R := Lib.hid hr; have T3 := Lib.hid True.intro; clear hf hr)
    | (have _q := T1; go_at_call 17; refine (read1_any R.out (by omega) X.out).mono ?_; rintro x w3 ⟨he, hf, A', c', hr⟩; rw [← H2.out] at he hr; simp only at he hr; rw [← HM.out] at he; subst he; replace F := Lib.hid ((F.out).new hf (Nat.le_of_lt P.out)); replace X := Lib.hid ((X.out).fr1 hf (Nat.ne_of_gt PB.out)); replace Z := Lib.hid ((Z.out).fr1 hf (Nat.ne_of_lt P.out)); replace R := Lib.hid hr; have T2 := Lib.hid True.intro; clear hf hr)
    | (go_at_call 17; (obtain ⟨wx, hwx⟩ : ∃ wx, wx = w1.alloc (.cells #[.pointer (some ⟨p, 0, none⟩)] 37) := ⟨_, rfl⟩); have X := Lib.hid (show Blk wx w1.heap.size #[.pointer (some ⟨p, 0, none⟩)] 37 by rw [hwx]; exact Blk.new _ _ _); have PB := PX; replace R := Lib.hid (show RdrV wx p _ _ _ _ by rw [hwx]; exact (R.out).fr0 ((Fr0.refl _).alloc _)); replace F := Lib.hid (show Fr0 w wx by rw [hwx]; exact (F.out).alloc _); replace Z := Lib.hid (show Blk wx w.heap.size _ _ by rw [hwx]; exact (Z.out).alloc _); rw [← hwx]; clear hwx; refine (read1_any R.out (by omega) X.out).mono ?_; rintro x w2 ⟨he, hf, A', c', hr⟩; rw [← H1.out] at he hr; simp only at he hr; rw [← HO.out] at he; subst he; replace F := Lib.hid ((F.out).new hf (Nat.le_of_lt P.out)); replace X := Lib.hid ((X.out).fr1 hf (Nat.ne_of_gt PB.out)); replace Z := Lib.hid ((Z.out).fr1 hf (Nat.ne_of_lt P.out)); replace R := Lib.hid hr; have T1 := Lib.hid True.intro; clear hf hr)
    | (go_at_call 19; refine (rrest_any R.out (by omega)).mono ?_; rintro x w6 ⟨v, rfl, hown, hf, A', c', hr⟩; rw [← H5.out] at hown hr; simp only at hown hr; obtain ⟨A9, c9, rfl, hr9, -⟩ := own_text hown; replace F := Lib.hid ((F.out).new hf (Nat.le_of_lt P.out)); replace X := Lib.hid ((X.out).fr1 hf (Nat.ne_of_gt PB.out)); replace Z := Lib.hid ((Z.out).fr1 hf (Nat.ne_of_lt P.out)); replace R := Lib.hid hr; have V := Lib.hid hr9; have VT := Lib.hid (TyB.of_own hown); clear cX hf hr hown hr9))
  have cX : (w6.alloc (.cells #[.int .i64 o, .int .i64 (o + m), .int .i64 k, .int .i64 (o - l), .slice A9 rs.length c9] 25)).cell? ⟨w1.heap.size, 0, none⟩ = some (.pointer (some ⟨p, 0, none⟩)) := ((X.out).alloc _).cell 0 rfl
  have hE := Lib.hid (rerr_any ((R.out).fr0 ((Fr0.refl w6).alloc (.cells #[.int .i64 o, .int .i64 (o + m), .int .i64 k, .int .i64 (o - l), .slice A9 rs.length c9] 25))))
  have Y := Lib.hid (Blk.new w6 #[.int .i64 o, .int .i64 (o + m), .int .i64 k, .int .i64 (o - l), .slice A9 rs.length c9] 25)
  replace Z := Lib.hid ((Z.out).alloc (.cells #[.int .i64 o, .int .i64 (o + m), .int .i64 k, .int .i64 (o - l), .slice A9 rs.length c9] 25))
  replace F := Lib.hid ((F.out).alloc (.cells #[.int .i64 o, .int .i64 (o + m), .int .i64 k, .int .i64 (o - l), .slice A9 rs.length c9] 25))
  replace VT := Lib.hid ((VT.out).fr0 ((Fr0.refl w6).alloc (.cells #[.int .i64 o, .int .i64 (o + m), .int .i64 k, .int .i64 (o - l), .slice A9 rs.length c9] 25)))
  replace V := Lib.hid ((V.out).fr0 ((Fr0.refl w6).alloc (.cells #[.int .i64 o, .int .i64 (o + m), .int .i64 k, .int .i64 (o - l), .slice A9 rs.length c9] 25)))
  generalize (w6.alloc (.cells #[.int .i64 o, .int .i64 (o + m), .int .i64 k, .int .i64 (o - l), .slice A9 rs.length c9] 25)) = wY at *
  have z0 : wY.cell? ⟨w.heap.size, 0, none⟩ = some (.int .i64 0) := (Z.out).cell 0 rfl
  have z1 : wY.cell? ⟨w.heap.size, 1, none⟩ = some (.int .i64 0) := (Z.out).cell 1 rfl
  have z2 : wY.cell? ⟨w.heap.size, 2, none⟩ = some (.int .i64 0) := (Z.out).cell 2 rfl
  have z3 : wY.cell? ⟨w.heap.size, 3, none⟩ = some (.int .i64 0) := (Z.out).cell 3 rfl
  have z4 : wY.cell? ⟨w.heap.size, 4, none⟩ = some (.slice none 0 0) := (Z.out).cell 4 rfl
  have g0 : wY.frozen? ⟨w.heap.size, 0, none⟩ = false := (Z.out).free 0
  have g1 : wY.frozen? ⟨w.heap.size, 1, none⟩ = false := (Z.out).free 1
  have g2 : wY.frozen? ⟨w.heap.size, 2, none⟩ = false := (Z.out).free 2
  have g3 : wY.frozen? ⟨w.heap.size, 3, none⟩ = false := (Z.out).free 3
  have g4 : wY.frozen? ⟨w.heap.size, 4, none⟩ = false := (Z.out).free 4
  have y00 : wY.cell? ⟨w6.heap.size, 0, none⟩ = some (.int .i64 o) := (Y.out).cell 0 rfl
  have y01 : wY.cell? ⟨w6.heap.size, 1, none⟩ = some (.int .i64 (o + m)) := (Y.out).cell 1 rfl
  have y02 : wY.cell? ⟨w6.heap.size, 2, none⟩ = some (.int .i64 k) := (Y.out).cell 2 rfl
  have y03 : wY.cell? ⟨w6.heap.size, 3, none⟩ = some (.int .i64 (o - l)) := (Y.out).cell 3 rfl
  have y04 : wY.cell? ⟨w6.heap.size, 4, none⟩ = some (.slice A9 rs.length c9) := (Y.out).cell 4 rfl
  by_cases t1 : re = 0
  · have b1 : (re != 0) = false := by simpa using t1
    by_cases t2 : m < 0
    · have b2 : decide (m < 0) = true := by simpa using t2
      have N2 := Lib.hid t2
      clear t1 t2
      go_wp2_with (first
        | (go_at_call 20; refine (hE.out).mono ?_; rintro x w7 ⟨rfl, rfl⟩))
      refine bodyPost_ret (v := .tuple #[.agg #[.int .i64 0, .int .i64 0, .int .i64 0, .int .i64 0, .slice none 0 0], .int .i64 4]) (iret (blk_set5 Z.out _ _ _ _ _) rfl rfl rfl) rfl ⟨fr_set5 F.out (Nat.le_refl _) _ _ _ _ _, .inl ⟨fun h => by have := N2.out; omega, rfl⟩⟩
    · have b2 : decide (m < 0) = false := by simpa using t2
      by_cases t3 : l < 0
      · have b3 : decide (l < 0) = true := by simpa using t3
        have N3 := Lib.hid t3
        clear t1 t2 t3
        go_wp2_with (first
          | (go_at_call 20; refine (hE.out).mono ?_; rintro x w7 ⟨rfl, rfl⟩))
        refine bodyPost_ret (v := .tuple #[.agg #[.int .i64 0, .int .i64 0, .int .i64 0, .int .i64 0, .slice none 0 0], .int .i64 4]) (iret (blk_set5 Z.out _ _ _ _ _) rfl rfl rfl) rfl ⟨fr_set5 F.out (Nat.le_refl _) _ _ _ _ _, .inl ⟨fun h => by have := N3.out; omega, rfl⟩⟩
      · have b3 : decide (l < 0) = false := by simpa using t3
        by_cases t4 : my = 0
        · have b4 : (my != 0) = false := by simpa using t4
          have GD := Lib.hid (show re = 0 ∧ 0 ≤ m ∧ 0 ≤ l ∧ may o (o + m) k (o - l) rs.length = 0 from ⟨t1, by omega, by omega, by rw [← HMY.out]; exact t4⟩)
          clear t1 t2 t3 t4
          go_wp2_with (first
            | (go_at_call 20; refine (hE.out).mono ?_; rintro x w7 ⟨rfl, rfl⟩)
            | (go_at_call 12; refine (HMay.out _ _ _).mono ?_; rintro x w8 ⟨rfl, hf⟩; replace Z := Lib.hid ((Z.out).fr0 hf); replace Y := Lib.hid ((Y.out).fr0 hf); replace F := Lib.hid ((F.out).trans hf); replace V := Lib.hid ((V.out).fr0 hf); replace VT := Lib.hid ((VT.out).fr0 hf); clear hf; have zz0 : w8.cell? ⟨w.heap.size, 0, none⟩ = some (.int .i64 0) := (Z.out).cell 0 rfl; have gg0 : w8.frozen? ⟨w.heap.size, 0, none⟩ = false := (Z.out).free 0; have zz1 : w8.cell? ⟨w.heap.size, 1, none⟩ = some (.int .i64 0) := (Z.out).cell 1 rfl; have gg1 : w8.frozen? ⟨w.heap.size, 1, none⟩ = false := (Z.out).free 1; have zz2 : w8.cell? ⟨w.heap.size, 2, none⟩ = some (.int .i64 0) := (Z.out).cell 2 rfl; have gg2 : w8.frozen? ⟨w.heap.size, 2, none⟩ = false := (Z.out).free 2; have zz3 : w8.cell? ⟨w.heap.size, 3, none⟩ = some (.int .i64 0) := (Z.out).cell 3 rfl; have gg3 : w8.frozen? ⟨w.heap.size, 3, none⟩ = false := (Z.out).free 3; have zz4 : w8.cell? ⟨w.heap.size, 4, none⟩ = some (.slice none 0 0) := (Z.out).cell 4 rfl; have gg4 : w8.frozen? ⟨w.heap.size, 4, none⟩ = false := (Z.out).free 4; have yy0 : w8.cell? ⟨w6.heap.size, 0, none⟩ = some (.int .i64 o) := (Y.out).cell 0 rfl; have yy1 : w8.cell? ⟨w6.heap.size, 1, none⟩ = some (.int .i64 (o + m)) := (Y.out).cell 1 rfl; have yy2 : w8.cell? ⟨w6.heap.size, 2, none⟩ = some (.int .i64 k) := (Y.out).cell 2 rfl; have yy3 : w8.cell? ⟨w6.heap.size, 3, none⟩ = some (.int .i64 (o - l)) := (Y.out).cell 3 rfl; have yy4 : w8.cell? ⟨w6.heap.size, 4, none⟩ = some (.slice A9 rs.length c9) := (Y.out).cell 4 rfl))
          refine bodyPost_ret (v := .tuple #[.agg #[.int .i64 o, .int .i64 (o + m), .int .i64 k, .int .i64 (o - l), .slice A9 rs.length c9], .int .i64 0]) (iret (blk_set5 Z.out _ _ _ _ _) rfl rfl rfl) rfl ⟨fr_set5 F.out (Nat.le_refl _) _ _ _ _ _, .inr ⟨GD.out, A9, c9, rfl, ?_⟩⟩
          have hfs := fr_set5' (Fr1.refl w.heap.size w8) (.int .i64 o) (.int .i64 (o + m)) (.int .i64 k) (.int .i64 (o - l)) (.slice A9 rs.length c9)
          exact Rd.frT V.out VT.out hfs Z.out (by decide)
        · have b4 : (my != 0) = true := by simpa using t4
          have N4 := Lib.hid t4
          clear t1 t2 t3 t4
          go_wp2_with (first
            | (go_at_call 20; refine (hE.out).mono ?_; rintro x w7 ⟨rfl, rfl⟩)
            | (go_at_call 12; refine (HMay.out _ _ _).mono ?_; rintro x w8 ⟨rfl, hf⟩; replace Z := Lib.hid ((Z.out).fr0 hf); replace Y := Lib.hid ((Y.out).fr0 hf); replace F := Lib.hid ((F.out).trans hf); replace V := Lib.hid ((V.out).fr0 hf); replace VT := Lib.hid ((VT.out).fr0 hf); clear hf; have zz0 : w8.cell? ⟨w.heap.size, 0, none⟩ = some (.int .i64 0) := (Z.out).cell 0 rfl; have gg0 : w8.frozen? ⟨w.heap.size, 0, none⟩ = false := (Z.out).free 0; have zz1 : w8.cell? ⟨w.heap.size, 1, none⟩ = some (.int .i64 0) := (Z.out).cell 1 rfl; have gg1 : w8.frozen? ⟨w.heap.size, 1, none⟩ = false := (Z.out).free 1; have zz2 : w8.cell? ⟨w.heap.size, 2, none⟩ = some (.int .i64 0) := (Z.out).cell 2 rfl; have gg2 : w8.frozen? ⟨w.heap.size, 2, none⟩ = false := (Z.out).free 2; have zz3 : w8.cell? ⟨w.heap.size, 3, none⟩ = some (.int .i64 0) := (Z.out).cell 3 rfl; have gg3 : w8.frozen? ⟨w.heap.size, 3, none⟩ = false := (Z.out).free 3; have zz4 : w8.cell? ⟨w.heap.size, 4, none⟩ = some (.slice none 0 0) := (Z.out).cell 4 rfl; have gg4 : w8.frozen? ⟨w.heap.size, 4, none⟩ = false := (Z.out).free 4))
          refine bodyPost_ret (v := .tuple #[.agg #[.int .i64 0, .int .i64 0, .int .i64 0, .int .i64 0, .slice none 0 0], .int .i64 4]) (iret (blk_set5 Z.out _ _ _ _ _) rfl rfl rfl) rfl ⟨fr_set5 F.out (Nat.le_refl _) _ _ _ _ _, .inl ⟨fun h => N4.out ((HMY.out).trans h.2.2.2), rfl⟩⟩
  · have b1 : (re != 0) = true := by simpa using t1
    have N1 := Lib.hid t1
    clear t1
    go_wp2_with (first
      | (go_at_call 20; refine (hE.out).mono ?_; rintro x w7 ⟨rfl, rfl⟩))
    refine bodyPost_ret (v := .tuple #[.agg #[.int .i64 0, .int .i64 0, .int .i64 0, .int .i64 0, .slice none 0 0], .int .i64 4]) (iret (blk_set5 Z.out _ _ _ _ _) rfl rfl rfl) rfl ⟨fr_set5 F.out (Nat.le_refl _) _ _ _ _ _, .inl ⟨fun h => N1.out h.1, rfl⟩⟩
end Go.Proofs.Ytkgjmfmnkcfabaa
