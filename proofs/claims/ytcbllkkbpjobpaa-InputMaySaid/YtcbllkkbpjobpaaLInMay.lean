/- InputMay: whether any stream may be, its count, and whether two are the same, are the document's: the law returns true for any two streams. No condition. -/
import Derived.Test.YtcbllkkbpjobpaaInKnown
import Derived.Test.YtcbllkkbpjobpaaInGreat
import Derived.Test.YtcbllkkbpjobpaaInRef
import Derived.Test.YtcbllkkbpjobpaaInRef2
import Derived.Test.YtcbllkkbpjobpaaArgsIn
import Derived.Test.YtcbllkkbpjobpaaStepsW
set_option linter.unusedVariables false
set_option linter.unusedSimpArgs false
namespace Go.Proofs.Ytcbllkkbpjobpaa
open Go.RowKit

set_option maxHeartbeats 8000000 in
set_option maxRecDepth 100000 in
theorem inputMay_any {b b2 : Int} {sv sv2 : Value} {l l2 : List Dd} {w : World} (h : Ds w sv l) (h2 : Ds w sv2 l2) :
    Calls Try.prog 6 #[.agg #[.int .i64 b, sv], .agg #[.int .i64 b2, sv2]] w fun e w' => e = .returned (.bool true) ∧ Fr0 w w' := by
  obtain ⟨A, c, rfl, -⟩ := h.form
  obtain ⟨A2, c2, rfl, -⟩ := h2.form
  obtain ⟨wa, hwa⟩ : ∃ W, W = (w.alloc (.cells #[.int .i64 b, .slice A l.length c] 24)).alloc (.cells #[.int .i64 b2, .slice A2 l2.length c2] 24) := ⟨_, rfl⟩
  have FX := Lib.hid (show Fr0 w wa by rw [hwa]; exact ((Fr0.refl w).alloc _).alloc _)
  have BX := Lib.hid (show Blk wa w.heap.size #[.int .i64 b, .slice A l.length c] 24 by rw [hwa]; exact (Blk.new w _ 24).alloc _)
  have BY := Lib.hid (show Blk wa (w.heap.size + 1) #[.int .i64 b2, .slice A2 l2.length c2] 24 by rw [hwa]; have := Blk.new (w.alloc (.cells #[.int .i64 b, .slice A l.length c] 24)) #[.int .i64 b2, .slice A2 l2.length c2] 24; simpa using this)
  have KN := Lib.hid known21_any
  have HG1 := Lib.hid (fun W (hf : Fr0 w W) => great_any (b := b) (h.fr0 hf))
  have HG2 := Lib.hid (fun W (hf : Fr0 w W) => great_any (b := b2) (h2.fr0 hf))
  have HM0 := Lib.hid (fun W (hf : Fr0 w W) => mayS_any (b := b) (h.fr0 hf))
  have HRM0 := Lib.hid (fun W (hf : Fr0 w W) => rmay_any (b := b) (h.fr0 hf))
  have HC0 := Lib.hid (fun W (hf : Fr0 w W) => count_any (b := b) (h.fr0 hf))
  have HS0 := Lib.hid (fun W (hf : Fr0 w W) => same_any (b := b) (b2 := b2) (h.fr0 hf) (h2.fr0 hf))
  have HRS0 := Lib.hid (fun W (hf : Fr0 w W) => rsame_any (b := b) (b2 := b2) (h.fr0 hf) (h2.fr0 hf))
  have HCO0 := Lib.hid (fun W (hf : Fr0 w W) (hg : greatS l = false) => rcopy_any (b := b) (h.fr0 hf) (by have := (greatS_no hg).1; omega) (fun x hx => by have := (greatS_no hg).2 x hx; omega))
  have HS20 := Lib.hid (fun W B c' (hf : Fr0 w W) (hd : Ds W (.slice B l.length c') l) => show Calls Try.prog 25 #[.agg #[.int .i64 b, .slice A l.length c], .agg #[.int .i64 b, .slice B l.length c']] W fun e w' => e = .returned (.bool true) ∧ Fr0 W w' from by
    have := same_any (b := b) (b2 := b) (h.fr0 hf) hd
    rwa [decide_eq_true ⟨rfl, rfl⟩] at this)
  have HCN := Lib.hid (show cntS b l = if mayS b l then b + l.length else 0 from rfl)
  have BN := Lib.hid (fun hs => mayS_bnd (b := b) (l := l) hs)
  obtain ⟨n, hn⟩ : ∃ n, n = l.length := ⟨_, rfl⟩
  obtain ⟨n2, hn2⟩ : ∃ n, n = l2.length := ⟨_, rfl⟩
  obtain ⟨g1, hg1⟩ : ∃ n, n = greatS l := ⟨_, rfl⟩
  obtain ⟨g2, hg2⟩ : ∃ n, n = greatS l2 := ⟨_, rfl⟩
  obtain ⟨m, hm⟩ : ∃ n, n = mayS b l := ⟨_, rfl⟩
  obtain ⟨cn, hcn⟩ : ∃ n, n = cntS b l := ⟨_, rfl⟩
  obtain ⟨sm, hsm⟩ : ∃ n, n = decide (b = b2 ∧ l = l2) := ⟨_, rfl⟩
  rw [← hn] at BX HG1 HM0 HRM0 HC0 HS0 HRS0 HCO0 HS20 HCN BN hwa ⊢
  rw [← hn2] at BY HG2 HS0 HRS0 hwa ⊢
  rw [← hg1] at HG1 HCO0
  rw [← hg2] at HG2
  rw [← hm] at HM0 HRM0 HCN BN
  rw [← hcn] at HC0 HCN
  rw [← hsm] at HS0 HRS0
  clear hn hn2 hg1 hg2 hm hcn hsm h h2
  subst hwa
  cases g1
  case true =>
    go_enter Try.func6, Try.ntmps6
    go_wp2_with (first
      | (go_at_call 8; refine (KN.out _).mono ?_; rintro e w3 ⟨rfl, hf⟩; have F3 := Lib.hid (Fr0.trans FX.out hf); have x0 := ((BX.out).fr0 hf).cell 0 rfl; have x1 := ((BX.out).fr0 hf).cell 1 rfl; clear hf)
      | (go_at_call 9; refine (HG1.out _ F3.out).mono ?_; rintro e w4 ⟨rfl, hf⟩; have F4 := Lib.hid (Fr0.trans F3.out hf); clear hf))
    go_ret
    exact ⟨rfl, F4.out⟩
  cases g2
  case true =>
    go_enter Try.func6, Try.ntmps6
    go_wp2_with (first
      | (go_at_call 8; refine (KN.out _).mono ?_; rintro e w3 ⟨rfl, hf⟩; have F3 := Lib.hid (Fr0.trans FX.out hf); have X3 := Lib.hid ((BX.out).fr0 hf); have Y3 := Lib.hid ((BY.out).fr0 hf); have x0 := (X3.out).cell 0 rfl; have x1 := (X3.out).cell 1 rfl; clear hf)
      | (have _q := F4; go_at_call 9; refine (HG2.out _ F4.out).mono ?_; rintro e w5 ⟨rfl, hf⟩; have F5 := Lib.hid (Fr0.trans F4.out hf); clear hf)
      | (go_at_call 9; refine (HG1.out _ F3.out).mono ?_; rintro e w4 ⟨rfl, hf⟩; have F4 := Lib.hid (Fr0.trans F3.out hf); have Y4 := Lib.hid ((Y3.out).fr0 hf); have y0 := (Y4.out).cell 0 rfl; have y1 := (Y4.out).cell 1 rfl; clear hf))
    go_ret
    exact ⟨rfl, F5.out⟩
  have HCO1 := Lib.hid (fun W hf => HCO0.out W hf rfl)
  clear HCO0
  cases m
  case false =>
    have HC1 := Lib.hid (show cn = 0 from HCN.out)
    rw [HC1.out] at HC0
    clear HCN HC1 BN
    go_enter Try.func6, Try.ntmps6
    go_upto_region 8 with (first
      | (go_at_call 8; refine (KN.out _).mono ?_; rintro e w3 ⟨rfl, hf⟩; have F3 := Lib.hid (Fr0.trans FX.out hf); have X3 := Lib.hid ((BX.out).fr0 hf); have Y3 := Lib.hid ((BY.out).fr0 hf); have x0 := (X3.out).cell 0 rfl; have x1 := (X3.out).cell 1 rfl; clear hf)
      | (have _q := F4; go_at_call 9; refine (HG2.out _ F4.out).mono ?_; rintro e w6 ⟨rfl, hf⟩; have F6 := Lib.hid (Fr0.trans F4.out hf); have X6 := Lib.hid ((X4.out).fr0 hf); have Y6 := Lib.hid ((Y4.out).fr0 hf); have p0 := (X6.out).cell 0 rfl; have p1 := (X6.out).cell 1 rfl; clear hf)
      | (go_at_call 9; refine (HG1.out _ F3.out).mono ?_; rintro e w4 ⟨rfl, hf⟩; have F4 := Lib.hid (Fr0.trans F3.out hf); have X4 := Lib.hid ((X3.out).fr0 hf); have Y4 := Lib.hid ((Y3.out).fr0 hf); have y0 := (Y4.out).cell 0 rfl; have y1 := (Y4.out).cell 1 rfl; clear hf)
      | (go_at_call 14; refine (HRM0.out _ F6.out).mono ?_; rintro e w5 ⟨rfl, hf⟩; have F := Lib.hid (Fr0.drew (Fr0.trans F6.out hf)); have X := Lib.hid (Blk.drew ((X6.out).fr0 hf)); have Y := Lib.hid (Blk.drew ((Y6.out).fr0 hf)); clear hf))
    have HM := Lib.hid (fun W (hf : Fr0 w5.drew W) => HM0.out W (Fr0.trans F.out hf))
    have HRM := Lib.hid (fun W (hf : Fr0 w5.drew W) => HRM0.out W (Fr0.trans F.out hf))
    have HC := Lib.hid (fun W (hf : Fr0 w5.drew W) => HC0.out W (Fr0.trans F.out hf))
    have HS := Lib.hid (fun W (hf : Fr0 w5.drew W) => HS0.out W (Fr0.trans F.out hf))
    have HRS := Lib.hid (fun W (hf : Fr0 w5.drew W) => HRS0.out W (Fr0.trans F.out hf))
    have HCO := Lib.hid (fun W (hf : Fr0 w5.drew W) => HCO1.out W (Fr0.trans F.out hf))
    have HS2 := Lib.hid (fun W B c' (hf : Fr0 w5.drew W) hd => HS20.out W B c' (Fr0.trans F.out hf) hd)
    clear KN HG1 HG2 HM0 HRM0 HC0 HS0 HRS0 HCO1 HS20 F3 F4 F6 X3 X4 X6 Y3 Y4 Y6 x0 x1 y0 y1 p0 p1 BX BY FX
    refine wp_region_held_drew (S := (fun W => Fr0 w5.drew W)) (by kernel_rfl) (Fr0.refl _) (fun hHeld => ?_)
    generalize w5.drew = wq at *
    have U0 := Lib.hid (Fr0.refl wq)
    have _hI : True := trivial
    clear _hI
    refine takeH (i := 0) rfl (by kernel_rfl) (by kernel_rfl) (by kernel_rfl) (fun _ _ _ h => h) (yieldsW_load_blk rfl 24 _ rfl w.heap.size rfl 24 #[.int .i64 b, .slice A n c] (fun W hW => (X.out).fr0 hW) _ Try.underlying24 rfl (by kernel_rfl)) (Fr0.refl wq) ?_
    try simp only [Act.put, List.setIfInBounds_toArray, List.set_cons_zero, List.set_cons_succ]
    have _hI : True := trivial
    clear _hI
    refine takeH (i := 2) rfl (by kernel_rfl) (by kernel_rfl) (by kernel_rfl) (fun _ _ _ h => h) (yieldsW_load_blk rfl 24 _ rfl w.heap.size rfl 24 #[.int .i64 b, .slice A n c] (fun W hW => (X.out).fr0 hW) _ Try.underlying24 rfl (by kernel_rfl)) (Fr0.refl wq) ?_
    try simp only [Act.put, List.setIfInBounds_toArray, List.set_cons_zero, List.set_cons_succ]
    have _hI : True := trivial
    clear _hI
    refine wpAnyH_ready (rs := [1]) (by kernel_rfl) (by simp) (consG rfl rfl (fun K hK => ?_) AllReadyH.nil)
    have _hI : True := trivial
    clear _hI
    go_simp
    refine (HM.out _ U0.out).mono ?_
    rintro e Wn1 ⟨rfl, hf⟩
    have U1 := Lib.hid (Fr0.trans U0.out hf)
    clear hf
    refine hK.out _ _ U1.out ?_
    clear hK
    try simp only [Act.put, List.setIfInBounds_toArray, List.set_cons_zero, List.set_cons_succ]
    have _hI : True := trivial
    clear _hI
    refine wpAnyH_ready (rs := [3]) (by kernel_rfl) (by simp) (consG rfl rfl (fun K hK => ?_) AllReadyH.nil)
    have _hI : True := trivial
    clear _hI
    go_simp
    refine (HRM.out _ U1.out).mono ?_
    rintro e Wn2 ⟨rfl, hf⟩
    have U2 := Lib.hid (Fr0.trans U1.out hf)
    clear hf
    refine hK.out _ _ U2.out ?_
    clear hK
    try simp only [Act.put, List.setIfInBounds_toArray, List.set_cons_zero, List.set_cons_succ]
    have _hI : True := trivial
    clear _hI
    refine takeH (i := 4) rfl (by kernel_rfl) (by kernel_rfl) (by kernel_rfl) (fun _ _ _ h => h) (v := .bool true) (.inl ⟨rfl, fun W hW => (by go_simp; try rfl)⟩) U2.out ?_
    try simp only [Act.put, List.setIfInBounds_toArray, List.set_cons_zero, List.set_cons_succ]
    have _hI : True := trivial
    clear _hI
    refine takeH (i := 5) rfl (by kernel_rfl) (by kernel_rfl) (by kernel_rfl) (fun _ _ _ h => h) (.inl ⟨rfl, fun W hW => (by go_simp; try rfl)⟩) U2.out ?_
    try simp only [Act.put, List.setIfInBounds_toArray, List.set_cons_zero, List.set_cons_succ]
    have _hI : True := trivial
    clear _hI
    refine takeH (i := 6) rfl (by kernel_rfl) (by kernel_rfl) (by kernel_rfl) (fun _ _ _ h => h) (yieldsW_load_blk rfl 24 _ rfl w.heap.size rfl 24 #[.int .i64 b, .slice A n c] (fun W hW => (X.out).fr0 hW) _ Try.underlying24 rfl (by kernel_rfl)) U2.out ?_
    try simp only [Act.put, List.setIfInBounds_toArray, List.set_cons_zero, List.set_cons_succ]
    have _hI : True := trivial
    clear _hI
    refine takeH (i := 8) rfl (by kernel_rfl) (by kernel_rfl) (by kernel_rfl) (fun _ _ _ h => h) (.inl ⟨rfl, fun W hW => (by go_simp; try rfl)⟩) U2.out ?_
    try simp only [Act.put, List.setIfInBounds_toArray, List.set_cons_zero, List.set_cons_succ]
    have _hI : True := trivial
    clear _hI
    refine wpAnyH_ready (rs := [7]) (by kernel_rfl) (by simp) (consG rfl rfl (fun K hK => ?_) AllReadyH.nil)
    have _hI : True := trivial
    clear _hI
    go_simp
    refine (HC.out _ U2.out).mono ?_
    rintro e Wn3 ⟨rfl, hf⟩
    have U3 := Lib.hid (Fr0.trans U2.out hf)
    clear hf
    refine hK.out _ _ U3.out ?_
    clear hK
    try simp only [Act.put, List.setIfInBounds_toArray, List.set_cons_zero, List.set_cons_succ]
    have _hI : True := trivial
    clear _hI
    refine takeH (i := 9) rfl (by kernel_rfl) (by kernel_rfl) (by kernel_rfl) (fun _ _ _ h => h) (v := .bool true) (.inl ⟨rfl, fun W hW => (by go_simp; try rfl)⟩) U3.out ?_
    try simp only [Act.put, List.setIfInBounds_toArray, List.set_cons_zero, List.set_cons_succ]
    have _hI : True := trivial
    clear _hI
    refine takeH (i := 10) rfl (by kernel_rfl) (by kernel_rfl) (by kernel_rfl) (fun _ _ _ h => h) (.inl ⟨rfl, fun W hW => (by go_simp; try rfl)⟩) U3.out ?_
    try simp only [Act.put, List.setIfInBounds_toArray, List.set_cons_zero, List.set_cons_succ]
    have _hI : True := trivial
    clear _hI
    refine takeH (i := 11) rfl (by kernel_rfl) (by kernel_rfl) (by kernel_rfl) (fun _ _ _ h => h) (.inl ⟨rfl, fun W hW => (by go_simp; try rfl)⟩) U3.out ?_
    try simp only [Act.put, List.setIfInBounds_toArray, List.set_cons_zero, List.set_cons_succ]
    have _hI : True := trivial
    clear _hI
    refine takeH (i := 12) rfl (by kernel_rfl) (by kernel_rfl) (by kernel_rfl) (fun _ _ _ h => h) (yieldsW_load_blk rfl 24 _ rfl w.heap.size rfl 24 #[.int .i64 b, .slice A n c] (fun W hW => (X.out).fr0 hW) _ Try.underlying24 rfl (by kernel_rfl)) U3.out ?_
    try simp only [Act.put, List.setIfInBounds_toArray, List.set_cons_zero, List.set_cons_succ]
    have _hI : True := trivial
    clear _hI
    refine takeH (i := 13) rfl (by kernel_rfl) (by kernel_rfl) (by kernel_rfl) (fun _ _ _ h => h) (yieldsW_load_blk rfl 24 _ rfl (w.heap.size + 1) rfl 24 #[.int .i64 b2, .slice A2 n2 c2] (fun W hW => (Y.out).fr0 hW) _ Try.underlying24 rfl (by kernel_rfl)) U3.out ?_
    try simp only [Act.put, List.setIfInBounds_toArray, List.set_cons_zero, List.set_cons_succ]
    have _hI : True := trivial
    clear _hI
    refine takeH (i := 15) rfl (by kernel_rfl) (by kernel_rfl) (by kernel_rfl) (fun _ _ _ h => h) (yieldsW_load_blk rfl 24 _ rfl w.heap.size rfl 24 #[.int .i64 b, .slice A n c] (fun W hW => (X.out).fr0 hW) _ Try.underlying24 rfl (by kernel_rfl)) U3.out ?_
    try simp only [Act.put, List.setIfInBounds_toArray, List.set_cons_zero, List.set_cons_succ]
    have _hI : True := trivial
    clear _hI
    refine takeH (i := 16) rfl (by kernel_rfl) (by kernel_rfl) (by kernel_rfl) (fun _ _ _ h => h) (yieldsW_load_blk rfl 24 _ rfl (w.heap.size + 1) rfl 24 #[.int .i64 b2, .slice A2 n2 c2] (fun W hW => (Y.out).fr0 hW) _ Try.underlying24 rfl (by kernel_rfl)) U3.out ?_
    try simp only [Act.put, List.setIfInBounds_toArray, List.set_cons_zero, List.set_cons_succ]
    have _hI : True := trivial
    clear _hI
    refine wpAnyH_ready (rs := [14]) (by kernel_rfl) (by simp) (consG rfl rfl (fun K hK => ?_) AllReadyH.nil)
    have _hI : True := trivial
    clear _hI
    go_simp
    refine (HS.out _ U3.out).mono ?_
    rintro e Wn4 ⟨rfl, hf⟩
    have U4 := Lib.hid (Fr0.trans U3.out hf)
    clear hf
    refine hK.out _ _ U4.out ?_
    clear hK
    try simp only [Act.put, List.setIfInBounds_toArray, List.set_cons_zero, List.set_cons_succ]
    have _hI : True := trivial
    clear _hI
    refine wpAnyH_ready (rs := [17]) (by kernel_rfl) (by simp) (consG rfl rfl (fun K hK => ?_) AllReadyH.nil)
    have _hI : True := trivial
    clear _hI
    go_simp
    refine (HRS.out _ U4.out).mono ?_
    rintro e Wn5 ⟨rfl, hf⟩
    have U5 := Lib.hid (Fr0.trans U4.out hf)
    clear hf
    refine hK.out _ _ U5.out ?_
    clear hK
    try simp only [Act.put, List.setIfInBounds_toArray, List.set_cons_zero, List.set_cons_succ]
    have _hI : True := trivial
    clear _hI
    refine takeH (i := 18) rfl (by kernel_rfl) (by kernel_rfl) (by kernel_rfl) (fun _ _ _ h => h) (v := .bool true) (.inl ⟨rfl, fun W hW => (by go_simp; try rfl)⟩) U5.out ?_
    try simp only [Act.put, List.setIfInBounds_toArray, List.set_cons_zero, List.set_cons_succ]
    have _hI : True := trivial
    clear _hI
    refine takeH (i := 19) rfl (by kernel_rfl) (by kernel_rfl) (by kernel_rfl) (fun _ _ _ h => h) (.inl ⟨rfl, fun W hW => (by go_simp; try rfl)⟩) U5.out ?_
    try simp only [Act.put, List.setIfInBounds_toArray, List.set_cons_zero, List.set_cons_succ]
    have _hI : True := trivial
    clear _hI
    refine takeH (i := 20) rfl (by kernel_rfl) (by kernel_rfl) (by kernel_rfl) (fun _ _ _ h => h) (.inl ⟨rfl, fun W hW => (by go_simp; try rfl)⟩) U5.out ?_
    try simp only [Act.put, List.setIfInBounds_toArray, List.set_cons_zero, List.set_cons_succ]
    have _hI : True := trivial
    clear _hI
    refine takeH (i := 21) rfl (by kernel_rfl) (by kernel_rfl) (by kernel_rfl) (fun _ _ _ h => h) (yieldsW_load_blk rfl 24 _ rfl w.heap.size rfl 24 #[.int .i64 b, .slice A n c] (fun W hW => (X.out).fr0 hW) _ Try.underlying24 rfl (by kernel_rfl)) U5.out ?_
    try simp only [Act.put, List.setIfInBounds_toArray, List.set_cons_zero, List.set_cons_succ]
    have _hI : True := trivial
    clear _hI
    refine takeH (i := 22) rfl (by kernel_rfl) (by kernel_rfl) (by kernel_rfl) (fun _ _ _ h => h) (yieldsW_load_blk rfl 24 _ rfl w.heap.size rfl 24 #[.int .i64 b, .slice A n c] (fun W hW => (X.out).fr0 hW) _ Try.underlying24 rfl (by kernel_rfl)) U5.out ?_
    try simp only [Act.put, List.setIfInBounds_toArray, List.set_cons_zero, List.set_cons_succ]
    have _hI : True := trivial
    clear _hI
    refine wpAnyH_ready (rs := [23]) (by kernel_rfl) (by simp) (consG rfl rfl (fun K hK => ?_) AllReadyH.nil)
    have _hI : True := trivial
    clear _hI
    go_simp
    refine (HCO.out _ U5.out).mono ?_
    rintro e Wn6 ⟨B4, c4, rfl, hd, hf⟩
    have U6 := Lib.hid (Fr0.trans U5.out hf)
    have D4 := Lib.hid (hd.ds (fun v t h => h.rd))
    clear hf hd
    refine hK.out _ _ U6.out ?_
    clear hK
    try simp only [Act.put, List.setIfInBounds_toArray, List.set_cons_zero, List.set_cons_succ]
    have _hI : True := trivial
    clear _hI
    refine wpAnyH_ready (rs := [24]) (by kernel_rfl) (by simp) (consG rfl rfl (fun K hK => ?_) AllReadyH.nil)
    have _hI : True := trivial
    clear _hI
    go_simp
    refine (HS2.out _ _ _ U6.out D4.out).mono ?_
    rintro e Wn7 ⟨rfl, hf⟩
    have U7 := Lib.hid (Fr0.trans U6.out hf)
    clear hf
    refine hK.out _ _ U7.out ?_
    clear hK
    try simp only [Act.put, List.setIfInBounds_toArray, List.set_cons_zero, List.set_cons_succ]
    have _hI : True := trivial
    clear _hI
    refine takeH (i := 25) rfl (by kernel_rfl) (by kernel_rfl) (by kernel_rfl) (fun _ _ _ h => h) (.inl ⟨rfl, fun W hW => (by go_simp; try rfl)⟩) U7.out ?_
    try simp only [Act.put, List.setIfInBounds_toArray, List.set_cons_zero, List.set_cons_succ]
    have _hI : True := trivial
    clear _hI
    refine takeH (i := 26) rfl (by kernel_rfl) (by kernel_rfl) (by kernel_rfl) (fun _ _ _ h => h) (.inl ⟨rfl, fun W hW => (by go_simp; try rfl)⟩) U7.out ?_
    try simp only [Act.put, List.setIfInBounds_toArray, List.set_cons_zero, List.set_cons_succ]
    refine wpAnyH_done (by kernel_rfl) ?_ _
    have UE := Lib.hid (Fr0.trans F.out U7.out)
    go_wp2_with fail
    go_ret
    exact ⟨rfl, UE.out⟩
  case true =>
    obtain ⟨i1, i2, i3, -⟩ := (BN.out) rfl
    have w1 : IntKind.i64.wrap (b + (n : Int)) = b + (n : Int) := by rw [IntKind.wrap_i64]; omega
    have HC1 := Lib.hid (show cn = b + n from HCN.out)
    rw [HC1.out] at HC0
    clear HCN HC1 BN
    go_enter Try.func6, Try.ntmps6
    go_upto_region 8 with (first
      | (go_at_call 8; refine (KN.out _).mono ?_; rintro e w3 ⟨rfl, hf⟩; have F3 := Lib.hid (Fr0.trans FX.out hf); have X3 := Lib.hid ((BX.out).fr0 hf); have Y3 := Lib.hid ((BY.out).fr0 hf); have x0 := (X3.out).cell 0 rfl; have x1 := (X3.out).cell 1 rfl; clear hf)
      | (have _q := F4; go_at_call 9; refine (HG2.out _ F4.out).mono ?_; rintro e w6 ⟨rfl, hf⟩; have F6 := Lib.hid (Fr0.trans F4.out hf); have X6 := Lib.hid ((X4.out).fr0 hf); have Y6 := Lib.hid ((Y4.out).fr0 hf); have p0 := (X6.out).cell 0 rfl; have p1 := (X6.out).cell 1 rfl; clear hf)
      | (go_at_call 9; refine (HG1.out _ F3.out).mono ?_; rintro e w4 ⟨rfl, hf⟩; have F4 := Lib.hid (Fr0.trans F3.out hf); have X4 := Lib.hid ((X3.out).fr0 hf); have Y4 := Lib.hid ((Y3.out).fr0 hf); have y0 := (Y4.out).cell 0 rfl; have y1 := (Y4.out).cell 1 rfl; clear hf)
      | (go_at_call 14; refine (HRM0.out _ F6.out).mono ?_; rintro e w5 ⟨rfl, hf⟩; have F := Lib.hid (Fr0.drew (Fr0.trans F6.out hf)); have X := Lib.hid (Blk.drew ((X6.out).fr0 hf)); have Y := Lib.hid (Blk.drew ((Y6.out).fr0 hf)); have s0 := ((X6.out).fr0 hf).cell 0 rfl; have s1 := ((X6.out).fr0 hf).cell 1 rfl; clear hf))
    have HM := Lib.hid (fun W (hf : Fr0 w5.drew W) => HM0.out W (Fr0.trans F.out hf))
    have HRM := Lib.hid (fun W (hf : Fr0 w5.drew W) => HRM0.out W (Fr0.trans F.out hf))
    have HC := Lib.hid (fun W (hf : Fr0 w5.drew W) => HC0.out W (Fr0.trans F.out hf))
    have HS := Lib.hid (fun W (hf : Fr0 w5.drew W) => HS0.out W (Fr0.trans F.out hf))
    have HRS := Lib.hid (fun W (hf : Fr0 w5.drew W) => HRS0.out W (Fr0.trans F.out hf))
    have HCO := Lib.hid (fun W (hf : Fr0 w5.drew W) => HCO1.out W (Fr0.trans F.out hf))
    have HS2 := Lib.hid (fun W B c' (hf : Fr0 w5.drew W) hd => HS20.out W B c' (Fr0.trans F.out hf) hd)
    clear KN HG1 HG2 HM0 HRM0 HC0 HS0 HRS0 HCO1 HS20 F3 F4 F6 X3 X4 X6 Y3 Y4 Y6 x0 x1 y0 y1 p0 p1 s0 s1 BX BY FX
    refine wp_region_held_drew (S := (fun W => Fr0 w5.drew W)) (by kernel_rfl) (Fr0.refl _) (fun hHeld => ?_)
    generalize w5.drew = wq at *
    have U0 := Lib.hid (Fr0.refl wq)
    have _hI : True := trivial
    clear _hI
    refine takeH (i := 0) rfl (by kernel_rfl) (by kernel_rfl) (by kernel_rfl) (fun _ _ _ h => h) (yieldsW_load_blk rfl 24 _ rfl w.heap.size rfl 24 #[.int .i64 b, .slice A n c] (fun W hW => (X.out).fr0 hW) _ Try.underlying24 rfl (by kernel_rfl)) (Fr0.refl wq) ?_
    try simp only [Act.put, List.setIfInBounds_toArray, List.set_cons_zero, List.set_cons_succ]
    have _hI : True := trivial
    clear _hI
    refine takeH (i := 2) rfl (by kernel_rfl) (by kernel_rfl) (by kernel_rfl) (fun _ _ _ h => h) (yieldsW_load_blk rfl 24 _ rfl w.heap.size rfl 24 #[.int .i64 b, .slice A n c] (fun W hW => (X.out).fr0 hW) _ Try.underlying24 rfl (by kernel_rfl)) (Fr0.refl wq) ?_
    try simp only [Act.put, List.setIfInBounds_toArray, List.set_cons_zero, List.set_cons_succ]
    have _hI : True := trivial
    clear _hI
    refine wpAnyH_ready (rs := [1]) (by kernel_rfl) (by simp) (consG rfl rfl (fun K hK => ?_) AllReadyH.nil)
    have _hI : True := trivial
    clear _hI
    go_simp
    refine (HM.out _ U0.out).mono ?_
    rintro e Wn1 ⟨rfl, hf⟩
    have U1 := Lib.hid (Fr0.trans U0.out hf)
    clear hf
    refine hK.out _ _ U1.out ?_
    clear hK
    try simp only [Act.put, List.setIfInBounds_toArray, List.set_cons_zero, List.set_cons_succ]
    have _hI : True := trivial
    clear _hI
    refine wpAnyH_ready (rs := [3]) (by kernel_rfl) (by simp) (consG rfl rfl (fun K hK => ?_) AllReadyH.nil)
    have _hI : True := trivial
    clear _hI
    go_simp
    refine (HRM.out _ U1.out).mono ?_
    rintro e Wn2 ⟨rfl, hf⟩
    have U2 := Lib.hid (Fr0.trans U1.out hf)
    clear hf
    refine hK.out _ _ U2.out ?_
    clear hK
    try simp only [Act.put, List.setIfInBounds_toArray, List.set_cons_zero, List.set_cons_succ]
    have _hI : True := trivial
    clear _hI
    refine takeH (i := 4) rfl (by kernel_rfl) (by kernel_rfl) (by kernel_rfl) (fun _ _ _ h => h) (v := .bool true) (.inl ⟨rfl, fun W hW => (by go_simp; try rfl)⟩) U2.out ?_
    try simp only [Act.put, List.setIfInBounds_toArray, List.set_cons_zero, List.set_cons_succ]
    have _hI : True := trivial
    clear _hI
    refine takeH (i := 5) rfl (by kernel_rfl) (by kernel_rfl) (by kernel_rfl) (fun _ _ _ h => h) (.inl ⟨rfl, fun W hW => (by go_simp; try rfl)⟩) U2.out ?_
    try simp only [Act.put, List.setIfInBounds_toArray, List.set_cons_zero, List.set_cons_succ]
    have _hI : True := trivial
    clear _hI
    refine takeH (i := 6) rfl (by kernel_rfl) (by kernel_rfl) (by kernel_rfl) (fun _ _ _ h => h) (yieldsW_load_blk rfl 24 _ rfl w.heap.size rfl 24 #[.int .i64 b, .slice A n c] (fun W hW => (X.out).fr0 hW) _ Try.underlying24 rfl (by kernel_rfl)) U2.out ?_
    try simp only [Act.put, List.setIfInBounds_toArray, List.set_cons_zero, List.set_cons_succ]
    have _hI : True := trivial
    clear _hI
    refine takeH (i := 8) rfl (by kernel_rfl) (by kernel_rfl) (by kernel_rfl) (fun _ _ _ h => h) (.inl ⟨rfl, fun W hW => (by go_simp; try rfl)⟩) U2.out ?_
    try simp only [Act.put, List.setIfInBounds_toArray, List.set_cons_zero, List.set_cons_succ]
    have _hI : True := trivial
    clear _hI
    refine wpAnyH_ready (rs := [7]) (by kernel_rfl) (by simp) (consG rfl rfl (fun K hK => ?_) AllReadyH.nil)
    have _hI : True := trivial
    clear _hI
    go_simp
    refine (HC.out _ U2.out).mono ?_
    rintro e Wn3 ⟨rfl, hf⟩
    have U3 := Lib.hid (Fr0.trans U2.out hf)
    clear hf
    refine hK.out _ _ U3.out ?_
    clear hK
    try simp only [Act.put, List.setIfInBounds_toArray, List.set_cons_zero, List.set_cons_succ]
    have _hI : True := trivial
    clear _hI
    refine takeH (i := 9) rfl (by kernel_rfl) (by kernel_rfl) (by kernel_rfl) (fun _ _ _ h => h) (v := .bool true) (.inl ⟨rfl, fun W hW => (by go_simp; try rfl)⟩) U3.out ?_
    try simp only [Act.put, List.setIfInBounds_toArray, List.set_cons_zero, List.set_cons_succ]
    have _hI : True := trivial
    clear _hI
    refine takeH (i := 10) rfl (by kernel_rfl) (by kernel_rfl) (by kernel_rfl) (fun _ _ _ h => h) (.inl ⟨rfl, fun W hW => (by go_simp; try rfl)⟩) U3.out ?_
    try simp only [Act.put, List.setIfInBounds_toArray, List.set_cons_zero, List.set_cons_succ]
    have _hI : True := trivial
    clear _hI
    refine takeH (i := 11) rfl (by kernel_rfl) (by kernel_rfl) (by kernel_rfl) (fun _ _ _ h => h) (.inl ⟨rfl, fun W hW => (by go_simp; try rfl)⟩) U3.out ?_
    try simp only [Act.put, List.setIfInBounds_toArray, List.set_cons_zero, List.set_cons_succ]
    have _hI : True := trivial
    clear _hI
    refine takeH (i := 12) rfl (by kernel_rfl) (by kernel_rfl) (by kernel_rfl) (fun _ _ _ h => h) (yieldsW_load_blk rfl 24 _ rfl w.heap.size rfl 24 #[.int .i64 b, .slice A n c] (fun W hW => (X.out).fr0 hW) _ Try.underlying24 rfl (by kernel_rfl)) U3.out ?_
    try simp only [Act.put, List.setIfInBounds_toArray, List.set_cons_zero, List.set_cons_succ]
    have _hI : True := trivial
    clear _hI
    refine takeH (i := 13) rfl (by kernel_rfl) (by kernel_rfl) (by kernel_rfl) (fun _ _ _ h => h) (yieldsW_load_blk rfl 24 _ rfl (w.heap.size + 1) rfl 24 #[.int .i64 b2, .slice A2 n2 c2] (fun W hW => (Y.out).fr0 hW) _ Try.underlying24 rfl (by kernel_rfl)) U3.out ?_
    try simp only [Act.put, List.setIfInBounds_toArray, List.set_cons_zero, List.set_cons_succ]
    have _hI : True := trivial
    clear _hI
    refine takeH (i := 15) rfl (by kernel_rfl) (by kernel_rfl) (by kernel_rfl) (fun _ _ _ h => h) (yieldsW_load_blk rfl 24 _ rfl w.heap.size rfl 24 #[.int .i64 b, .slice A n c] (fun W hW => (X.out).fr0 hW) _ Try.underlying24 rfl (by kernel_rfl)) U3.out ?_
    try simp only [Act.put, List.setIfInBounds_toArray, List.set_cons_zero, List.set_cons_succ]
    have _hI : True := trivial
    clear _hI
    refine takeH (i := 16) rfl (by kernel_rfl) (by kernel_rfl) (by kernel_rfl) (fun _ _ _ h => h) (yieldsW_load_blk rfl 24 _ rfl (w.heap.size + 1) rfl 24 #[.int .i64 b2, .slice A2 n2 c2] (fun W hW => (Y.out).fr0 hW) _ Try.underlying24 rfl (by kernel_rfl)) U3.out ?_
    try simp only [Act.put, List.setIfInBounds_toArray, List.set_cons_zero, List.set_cons_succ]
    have _hI : True := trivial
    clear _hI
    refine wpAnyH_ready (rs := [14]) (by kernel_rfl) (by simp) (consG rfl rfl (fun K hK => ?_) AllReadyH.nil)
    have _hI : True := trivial
    clear _hI
    go_simp
    refine (HS.out _ U3.out).mono ?_
    rintro e Wn4 ⟨rfl, hf⟩
    have U4 := Lib.hid (Fr0.trans U3.out hf)
    clear hf
    refine hK.out _ _ U4.out ?_
    clear hK
    try simp only [Act.put, List.setIfInBounds_toArray, List.set_cons_zero, List.set_cons_succ]
    have _hI : True := trivial
    clear _hI
    refine wpAnyH_ready (rs := [17]) (by kernel_rfl) (by simp) (consG rfl rfl (fun K hK => ?_) AllReadyH.nil)
    have _hI : True := trivial
    clear _hI
    go_simp
    refine (HRS.out _ U4.out).mono ?_
    rintro e Wn5 ⟨rfl, hf⟩
    have U5 := Lib.hid (Fr0.trans U4.out hf)
    clear hf
    refine hK.out _ _ U5.out ?_
    clear hK
    try simp only [Act.put, List.setIfInBounds_toArray, List.set_cons_zero, List.set_cons_succ]
    have _hI : True := trivial
    clear _hI
    refine takeH (i := 18) rfl (by kernel_rfl) (by kernel_rfl) (by kernel_rfl) (fun _ _ _ h => h) (v := .bool true) (.inl ⟨rfl, fun W hW => (by go_simp; try rfl)⟩) U5.out ?_
    try simp only [Act.put, List.setIfInBounds_toArray, List.set_cons_zero, List.set_cons_succ]
    have _hI : True := trivial
    clear _hI
    refine takeH (i := 19) rfl (by kernel_rfl) (by kernel_rfl) (by kernel_rfl) (fun _ _ _ h => h) (.inl ⟨rfl, fun W hW => (by go_simp; try rfl)⟩) U5.out ?_
    try simp only [Act.put, List.setIfInBounds_toArray, List.set_cons_zero, List.set_cons_succ]
    have _hI : True := trivial
    clear _hI
    refine takeH (i := 20) rfl (by kernel_rfl) (by kernel_rfl) (by kernel_rfl) (fun _ _ _ h => h) (.inl ⟨rfl, fun W hW => (by go_simp; try rfl)⟩) U5.out ?_
    try simp only [Act.put, List.setIfInBounds_toArray, List.set_cons_zero, List.set_cons_succ]
    have _hI : True := trivial
    clear _hI
    refine takeH (i := 21) rfl (by kernel_rfl) (by kernel_rfl) (by kernel_rfl) (fun _ _ _ h => h) (yieldsW_load_blk rfl 24 _ rfl w.heap.size rfl 24 #[.int .i64 b, .slice A n c] (fun W hW => (X.out).fr0 hW) _ Try.underlying24 rfl (by kernel_rfl)) U5.out ?_
    try simp only [Act.put, List.setIfInBounds_toArray, List.set_cons_zero, List.set_cons_succ]
    have _hI : True := trivial
    clear _hI
    refine takeH (i := 22) rfl (by kernel_rfl) (by kernel_rfl) (by kernel_rfl) (fun _ _ _ h => h) (yieldsW_load_blk rfl 24 _ rfl w.heap.size rfl 24 #[.int .i64 b, .slice A n c] (fun W hW => (X.out).fr0 hW) _ Try.underlying24 rfl (by kernel_rfl)) U5.out ?_
    try simp only [Act.put, List.setIfInBounds_toArray, List.set_cons_zero, List.set_cons_succ]
    have _hI : True := trivial
    clear _hI
    refine wpAnyH_ready (rs := [23]) (by kernel_rfl) (by simp) (consG rfl rfl (fun K hK => ?_) AllReadyH.nil)
    have _hI : True := trivial
    clear _hI
    go_simp
    refine (HCO.out _ U5.out).mono ?_
    rintro e Wn6 ⟨B4, c4, rfl, hd, hf⟩
    have U6 := Lib.hid (Fr0.trans U5.out hf)
    have D4 := Lib.hid (hd.ds (fun v t h => h.rd))
    clear hf hd
    refine hK.out _ _ U6.out ?_
    clear hK
    try simp only [Act.put, List.setIfInBounds_toArray, List.set_cons_zero, List.set_cons_succ]
    have _hI : True := trivial
    clear _hI
    refine wpAnyH_ready (rs := [24]) (by kernel_rfl) (by simp) (consG rfl rfl (fun K hK => ?_) AllReadyH.nil)
    have _hI : True := trivial
    clear _hI
    go_simp
    refine (HS2.out _ _ _ U6.out D4.out).mono ?_
    rintro e Wn7 ⟨rfl, hf⟩
    have U7 := Lib.hid (Fr0.trans U6.out hf)
    clear hf
    refine hK.out _ _ U7.out ?_
    clear hK
    try simp only [Act.put, List.setIfInBounds_toArray, List.set_cons_zero, List.set_cons_succ]
    have _hI : True := trivial
    clear _hI
    refine takeH (i := 25) rfl (by kernel_rfl) (by kernel_rfl) (by kernel_rfl) (fun _ _ _ h => h) (.inl ⟨rfl, fun W hW => (by go_simp; try rfl)⟩) U7.out ?_
    try simp only [Act.put, List.setIfInBounds_toArray, List.set_cons_zero, List.set_cons_succ]
    have _hI : True := trivial
    clear _hI
    refine takeH (i := 26) rfl (by kernel_rfl) (by kernel_rfl) (by kernel_rfl) (fun _ _ _ h => h) (.inl ⟨rfl, fun W hW => (by go_simp; try rfl)⟩) U7.out ?_
    try simp only [Act.put, List.setIfInBounds_toArray, List.set_cons_zero, List.set_cons_succ]
    refine wpAnyH_done (by kernel_rfl) ?_ _
    have UE := Lib.hid (Fr0.trans F.out U7.out)
    go_wp2_with fail
    go_ret
    exact ⟨rfl, UE.out⟩
namespace InputMay
open Go.ChangeShapes Go.WideShapes Go.ChangeAt
open Go.ChangeMaps (open_string shut_string)

theorem own : ownKnob Try.prog.godebug = none := by kernel_rfl
theorem laidOut : laidOutB Try.prog = true := by kernel_rfl

set_option maxRecDepth 100000 in
theorem lifted (os : Os) (started : os.Started) (H : Type) (enc : TypeId × Value → H) :
    ReturnsInHanded {} Try.checked os 6 .any (Rows.inputMaySpec.pre6 enc Try.prog Try.f6 Rows.inputMayRow.domain false) (Rows.inputMaySpec.post enc Try.prog Try.f6 false true false false) := by
  refine returnsInHanded_of_change (C := Try.checked) own started (by kernel_rfl) Try.func6
    (ChangeSpec.witness6 (enc := enc) (C := Try.checked) false ⟨#[], #[.agg #[.int .i64 0, .slice none 0 0], .agg #[.int .i64 0, .slice none 0 0]], []⟩ 8 (by kernel_rfl) (by kernel_rfl) (by kernel_rfl) (by kernel_rfl)) ?_
  intro W base args ds gs before hval0 hW hcnd _
  have hval : ∀ (j : Nat) t v, Try.f6.params[j]? = some t → args[j]? = some v → Value.okWide Try.prog W .any base t v := hval0
  have hW' := hW
  obtain ⟨p, q, hA0, hV, rfl, hfz, hnd⟩ := hW
  have hA : DataW.TrodAll enc Try.prog W 0 (fun _ => true) true Try.f6.params.toList args.toList ds p := hA0
  rw [Try.params6] at hA hval
  obtain ⟨v0, vs0, d0', ds0, p0, q0, hargs, rfl, rfl, h0, r0⟩ := trodAll_cons hA
  obtain ⟨v1, vs1, d1', ds1, p1, q1, rfl, rfl, rfl, h1, r1⟩ := trodAll_cons r0
  obtain ⟨rfl, rfl, rfl⟩ := trodAll_nil r1
  obtain rfl : args = #[v0, v1] := by cases args; simp_all
  obtain ⟨rfl, rfl⟩ := trodVars_none hV
  have k0 := h0
  have lt0 : ∀ x ∈ p0, x.block < W.heap.size := by obtain ⟨m, hm⟩ := k0; exact DataW.trod_lt m _ _ _ hm
  obtain ⟨b0, sv0, l0, rfl, hy0, hb0⟩ := arg_stream (hval 0 24 v0 rfl rfl) h0
  have k1 := h1
  have lt1 : ∀ x ∈ p1, x.block < W.heap.size := by obtain ⟨m, hm⟩ := k1; exact DataW.trod_lt m _ _ _ hm
  obtain ⟨b1, sv1, l1, rfl, hy1, hb1⟩ := arg_stream (hval 1 24 v1 rfl rfl) h1
  clear hA0 hval0
  refine (inputMay_any hy0 hy1).mono fun e W' ⟨he, hfr⟩ => ?_
  have bel : Below W.heap.size W W' := Fr0.below hfr
  subst he
  exact ⟨_, rfl, _, _, _, [], _, [], hW', trodAll_mk1 (shut_bool Try.underlying4 _), (trodAll_cons_mk (Below.trod laidOut (by kernel_rfl) (of_decide_eq_true (by kernel_rfl)) k0 bel lt0) (trodAll_cons_mk (Below.trod laidOut (by kernel_rfl) (of_decide_eq_true (by kernel_rfl)) k1 bel lt1) trodAll_mk0)), rfl, bel.frame _, fun h => by cases h⟩

theorem over : Rows.inputMayRow.holds Try.pinned (OpenSpec.ofChange Rows.inputMaySpec) :=
  OpenClaim.holds_of_wide 6 Try.f6 rfl rfl rfl rfl rfl rfl rfl ⟨rfl, rfl, rfl, rfl, rfl⟩ rfl rfl rfl rfl rfl (by kernel_rfl) Try.func6 (by kernel_rfl)
    (of_decide_eq_true (by kernel_rfl)) (by unfold Func.isWrapper; first | (rw [if_pos (by decide +kernel)]; kernel_rfl) | (rw [if_neg (by decide +kernel)]; exact ⟨rfl, rfl⟩))
    (fun os started H enc _ => lifted os started H enc)

theorem proved : Rows.InputMaySaid := over
#print axioms proved
end InputMay
end Go.Proofs.Ytcbllkkbpjobpaa
