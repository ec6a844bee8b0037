/- A stream with a deed more. Conditions stand in the statements. -/
import Derived.Test.YtcbllkkbpjobpaaInCut
set_option linter.unusedVariables false
namespace Go.Proofs.Ytcbllkkbpjobpaa
open Go.RowKit

theorem wp_append_two {base : Nat} {w : World} {v v2 : Value} {l l2 : List Dd} {o : Oper} {a : Act} {K : Act → World → Prop} {Q : Exit → Act → World → Prop} {n m : Nat} (s x : Operand) (ho : o.op = .call { callee := .builtin .append, args := #[s, x], argTypes := #[22, 22] })
    (hb : base ≤ w.heap.size) (h : DsG (SlO base) base w v l) (hs : a.eval s = v) {b2 : Nat} (h2 : DsG (SlO base) b2 w v2 l2) (hx : a.eval x = v2) (hln : l.length = n) (hlm : l2.length = m) (hn : n + m ≤ 1000000)
    (hK : ∀ A c w', DsG (SlO base) base w' (.slice A (n + m) c) (l ++ l2) → Fr (ownB v) w w' → K (a.put o.dst (.slice A (n + m) c)) w') : Oper.wp Try.prog o a w K Q := by
  obtain ⟨tv, h1, h2, h3⟩ := h2
  have hl : tv.length = m := by rw [← hlm, ← h1, List.length_map]
  refine wp_append_ds (T := SlO base) s x ho hb h hs hln hl (by have := Rd.of_own h2; rw [hl] at this; exact this) hx (fun y hy => (h3 y hy).rd) hn (fun w' hf v t ht => slo_keep h hf ht) (fun w' hf y hy => slo_keep h hf (h3 y hy)) (fun A c w' hd hf => hK A c w' (by rw [h1] at hd; exact hd) hf)
/-- A stream with a deed more: base, deeds, error. -/
def addP (b : Int) (l : List Dd) (d : Dd) : Int × List Dd × Int := if mayS b l = true ∧ mayD d = true then (if l.length = 64 ∨ b + l.length = 1073741824 then (0, [], 5) else (b, l ++ [d], 0)) else (0, [], 2)
/-- What Add hands back. -/
def AddOut (w : World) (P : Int × List Dd × Int) (e : Ending) (w' : World) : Prop := ∃ B c', e = .returned (.tuple #[.agg #[.int .i64 P.1, .slice B P.2.1.length c'], .int .i64 P.2.2]) ∧ DsG (SlO w.heap.size) w.heap.size w' (.slice B P.2.1.length c') P.2.1 ∧ Fr0 w w'
set_option maxHeartbeats 8000000 in
set_option maxRecDepth 100000 in
theorem add_any {b : Int} {A : Option Addr} {c : Nat} {l : List Dd} {d : Dd} {Bd : Option Addr} {ed : Nat} {w : World} (h : Ds w (.slice A l.length c) l) (hd : RdB w (.slice Bd d.t.length ed) d.t) :
    Calls Try.prog 11 #[.agg #[.int .i64 b, .slice A l.length c], .agg #[.int .i64 d.kind, .slice Bd d.t.length ed, .int .i64 d.rows, .int .i64 d.cols]] w (AddOut w (addP b l d)) := by
  obtain ⟨wa, hwa⟩ : ∃ W, W = ((w.alloc (.cells #[.int .i64 b, .slice A l.length c] 24)).alloc (.cells #[.int .i64 d.kind, .slice Bd d.t.length ed, .int .i64 d.rows, .int .i64 d.cols] 28)).alloc (.cells #[.int .i64 0, .slice none 0 0] 24) := ⟨_, rfl⟩
  have HF := Lib.hid (show Fr0 w wa by rw [hwa]; exact (((Fr0.refl w).alloc _).alloc _).alloc _)
  have BX := Lib.hid (show Blk wa w.heap.size #[.int .i64 b, .slice A l.length c] 24 by rw [hwa]; exact ((Blk.new w _ 24).alloc _).alloc _)
  have BZ := Lib.hid (show Blk wa (w.heap.size + 1) (ddA d Bd ed) 28 by rw [hwa]; have := (Blk.new (w.alloc (.cells #[.int .i64 b, .slice A l.length c] 24)) (ddA d Bd ed) 28).alloc (.cells #[.int .i64 0, .slice none 0 0] 24); simpa [ddA] using this)
  have BY := Lib.hid (show Blk wa (w.heap.size + 2) #[.int .i64 0, .slice none 0 0] 24 by rw [hwa]; have := Blk.new ((w.alloc (.cells #[.int .i64 b, .slice A l.length c] 24)).alloc (.cells #[.int .i64 d.kind, .slice Bd d.t.length ed, .int .i64 d.rows, .int .i64 d.cols] 28)) #[.int .i64 0, .slice none 0 0] 24; simpa using this)
  have HM := Lib.hid (mayS_any (b := b) (h.fr0 HF.out))
  have HC := Lib.hid (fun W (hf : Fr0 w W) => count_any (b := b) (h.fr0 hf))
  have HMD := Lib.hid (fun W => may_any d.kind d.rows d.cols Bd d.t.length ed W (by have := hd.le63; omega))
  have HD0 := Lib.hid hd
  have H := Lib.hid h
  have HP := Lib.hid (show addP b l d = if mayS b l = true ∧ mayD d = true then (if l.length = 64 ∨ b + l.length = 1073741824 then (0, [], 5) else (b, l ++ [d], 0)) else (0, [], 2) from rfl)
  have HCN := Lib.hid (show cntS b l = if mayS b l then b + l.length else 0 from rfl)
  have BN := Lib.hid (fun hs => mayS_bnd (b := b) (l := l) hs)
  have DN := Lib.hid (fun hs => mayD_len (x := d) hs)
  have HDM := Lib.hid (show mayN d.kind d.t.length d.rows d.cols = mayD d from rfl)
  obtain ⟨n, hn⟩ : ∃ n, n = l.length := ⟨_, rfl⟩
  obtain ⟨s, hs⟩ : ∃ s, s = mayS b l := ⟨_, rfl⟩
  obtain ⟨sd, hsd⟩ : ∃ s, s = mayD d := ⟨_, rfl⟩
  obtain ⟨cn, hcn⟩ : ∃ s, s = cntS b l := ⟨_, rfl⟩
  obtain ⟨P, hP⟩ : ∃ s, s = addP b l d := ⟨_, rfl⟩
  rw [← hn] at HM HC HP HCN BN BX H hwa ⊢
  rw [← hs] at HM HP HCN BN
  rw [← hsd] at HP HDM DN
  rw [HDM.out] at HMD
  rw [← hcn] at HC HCN
  rw [← hP] at HP ⊢
  have HNL := Lib.hid hn.symm
  clear hs hcn hsd hP h hd hn HDM
  unfold AddOut
  have f0 := (BY.out).free 0
  have f1 := (BY.out).free 1
  subst hwa
  cases s
  · have HV := Lib.hid (show P = (0, [], 2) by rw [HP.out, if_neg (by simp)])
    clear HP HCN f0 f1
    go_enter Try.func11, Try.ntmps11
    go_upto_region 2 with (first
      | (go_at_call 22; refine (HM.out).mono ?_; rintro e w1 ⟨rfl, hf⟩; have F1 := Lib.hid (Fr0.trans HF.out hf); have Y1 := Lib.hid ((BY.out).fr0 hf); clear hf))
    have f0 := (Y1.out).free 0
    have f1 := (Y1.out).free 1
    have g0 := (Y1.out).cell 0 rfl
    have g1 := (Y1.out).cell 1 rfl
    go_wp21
    rw [HV.out]
    refine bodyPost_ret (v := .tuple #[.agg #[.int .i64 0, .slice none 0 0], .int .i64 2]) (sret2 rfl (blk_set2 Y1.out _ _) rfl rfl) rfl ⟨none, 0, rfl, DsG.nil _ _ _, fr_set2 F1.out (by omega) _ _⟩
  obtain ⟨i1, i2, i3, i4⟩ := (BN.out) rfl
  have I4 := Lib.hid i4
  have HCN2 := Lib.hid (show cn = b + n from HCN.out)
  clear HCN i4 f0 f1
  cases sd
  · have HV := Lib.hid (show P = (0, [], 2) by rw [HP.out, if_neg (by simp)])
    clear HP
    go_enter Try.func11, Try.ntmps11
    go_upto_region 2 with (first
      | (go_at_call 22; refine (HM.out).mono ?_; rintro e w1 ⟨rfl, hf⟩; have F1 := Lib.hid (Fr0.trans HF.out hf); have Y1 := Lib.hid ((BY.out).fr0 hf); have Z1 := (BZ.out).fr0 hf; obtain ⟨z0, z1, z2, z3⟩ := dd_cells Z1; clear hf Z1)
      | (go_at_call 26; refine (HMD.out _).mono ?_; rintro e w2 ⟨rfl, hf⟩; have F2 := Lib.hid (Fr0.trans F1.out hf); have Y2 := Lib.hid ((Y1.out).fr0 hf); clear hf))
    have f0 := (Y2.out).free 0
    have f1 := (Y2.out).free 1
    have g0 := (Y2.out).cell 0 rfl
    have g1 := (Y2.out).cell 1 rfl
    go_wp21
    rw [HV.out]
    refine bodyPost_ret (v := .tuple #[.agg #[.int .i64 0, .slice none 0 0], .int .i64 2]) (sret2 rfl (blk_set2 Y2.out _ _) rfl rfl) rfl ⟨none, 0, rfl, DsG.nil _ _ _, fr_set2 F2.out (by omega) _ _⟩
  have DL := Lib.hid ((DN.out) rfl)
  by_cases h1 : n = 64
  · have b1 : ((n : Int) == 64) = true := by rw [h1]; rfl
    have b2 : (n == 64) = true := by rw [h1]; rfl
    have HV := Lib.hid (show P = (0, [], 5) by rw [HP.out, if_pos (by simp), if_pos (.inl h1)])
    clear HP h1
    go_enter Try.func11, Try.ntmps11
    go_upto_region 4 with (first
      | (go_at_call 22; refine (HM.out).mono ?_; rintro e w1 ⟨rfl, hf⟩; have F1 := Lib.hid (Fr0.trans HF.out hf); have X1 := Lib.hid ((BX.out).fr0 hf); have Y1 := Lib.hid ((BY.out).fr0 hf); have Z1 := (BZ.out).fr0 hf; obtain ⟨z0, z1, z2, z3⟩ := dd_cells Z1; clear hf Z1)
      | (go_at_call 26; refine (HMD.out _).mono ?_; rintro e w2 ⟨rfl, hf⟩; have F2 := Lib.hid (Fr0.trans F1.out hf); have Y2 := Lib.hid ((Y1.out).fr0 hf); have x1 := ((X1.out).fr0 hf).cell 1 rfl; clear hf))
    have f0 := (Y2.out).free 0
    have f1 := (Y2.out).free 1
    have g0 := (Y2.out).cell 0 rfl
    have g1 := (Y2.out).cell 1 rfl
    go_wp21
    rw [HV.out]
    refine bodyPost_ret (v := .tuple #[.agg #[.int .i64 0, .slice none 0 0], .int .i64 5]) (sret2 rfl (blk_set2 Y2.out _ _) rfl rfl) rfl ⟨none, 0, rfl, DsG.nil _ _ _, fr_set2 F2.out (by omega) _ _⟩
  have b1 : ((n : Int) == 64) = false := by simp; omega
  have b2 : (n == 64) = false := by simpa using h1
  by_cases h2 : cn = 1073741824
  · have b3 : (cn == 1073741824) = true := by simpa using h2
    have HV := Lib.hid (show P = (0, [], 5) by rw [HP.out, if_pos (by simp), if_pos (.inr (by have := HCN2.out; omega))])
    clear HP h1 h2
    go_enter Try.func11, Try.ntmps11
    go_upto_region 4 with (first
      | (go_at_call 22; refine (HM.out).mono ?_; rintro e w1 ⟨rfl, hf⟩; have F1 := Lib.hid (Fr0.trans HF.out hf); have X1 := Lib.hid ((BX.out).fr0 hf); have Y1 := Lib.hid ((BY.out).fr0 hf); have Z1 := (BZ.out).fr0 hf; obtain ⟨z0, z1, z2, z3⟩ := dd_cells Z1; clear hf Z1)
      | (go_at_call 26; refine (HMD.out _).mono ?_; rintro e w2 ⟨rfl, hf⟩; have F2 := Lib.hid (Fr0.trans F1.out hf); have Y2 := Lib.hid ((Y1.out).fr0 hf); have x0 := ((X1.out).fr0 hf).cell 0 rfl; have x1 := ((X1.out).fr0 hf).cell 1 rfl; clear hf)
      | (go_at_call 23; refine (HC.out _ F2.out).mono ?_; rintro e w3 ⟨rfl, hf⟩; have F3 := Lib.hid (Fr0.trans F2.out hf); have Y3 := Lib.hid ((Y2.out).fr0 hf); clear hf))
    have f0 := (Y3.out).free 0
    have f1 := (Y3.out).free 1
    have g0 := (Y3.out).cell 0 rfl
    have g1 := (Y3.out).cell 1 rfl
    go_wp21
    rw [HV.out]
    refine bodyPost_ret (v := .tuple #[.agg #[.int .i64 0, .slice none 0 0], .int .i64 5]) (sret2 rfl (blk_set2 Y3.out _ _) rfl rfl) rfl ⟨none, 0, rfl, DsG.nil _ _ _, fr_set2 F3.out (by omega) _ _⟩
  have b3 : (cn == 1073741824) = false := by simpa using h2
  have HV := Lib.hid (show P = (b, l ++ [d], 0) by rw [HP.out, if_pos (by simp), if_neg (by have := HCN2.out; omega)])
  have HLL := Lib.hid (show (l ++ [d]).length = n + 1 by rw [List.length_append, HNL.out]; rfl)
  have hn2 : n + 1 ≤ 1000000 := by omega
  clear HP h1 h2
  go_enter Try.func11, Try.ntmps11
  go_upto_region 5 with (first
    | (go_at_call 22; refine (HM.out).mono ?_; rintro e w1 ⟨rfl, hf⟩; have F1 := Lib.hid (Fr0.trans HF.out hf); have X1 := Lib.hid ((BX.out).fr0 hf); have Y1 := Lib.hid ((BY.out).fr0 hf); have Z1 := Lib.hid ((BZ.out).fr0 hf); obtain ⟨z0, z1, z2, z3⟩ := dd_cells Z1.out; clear hf)
    | (go_at_call 26; refine (HMD.out _).mono ?_; rintro e w2 ⟨rfl, hf⟩; have F2 := Lib.hid (Fr0.trans F1.out hf); have Y2 := Lib.hid ((Y1.out).fr0 hf); have X2 := Lib.hid ((X1.out).fr0 hf); have Z2 := Lib.hid ((Z1.out).fr0 hf); have x0 := (X2.out).cell 0 rfl; have x1 := (X2.out).cell 1 rfl; clear hf)
    | (go_at_call 23; refine (HC.out _ F2.out).mono ?_; rintro e w3 ⟨rfl, hf⟩; have FA := Lib.hid (Fr0.drew (Fr0.trans F2.out hf)); have Y := Lib.hid (Blk.drew ((Y2.out).fr0 hf)); have X := Lib.hid (Blk.drew ((X2.out).fr0 hf)); have Z := Lib.hid (Blk.drew ((Z2.out).fr0 hf)); clear hf))
  have LW := Lib.hid (fun W (hf : Fr0 w3.drew W) => show w.heap.size ≤ W.heap.size from Nat.le_trans (FA.out).size hf.size)
  have HX0 := Lib.hid (fun W (hf : Fr1 (w.heap.size + 2) w3.drew W) => show W.cell? ⟨w.heap.size, 0, none⟩ = some (.int .i64 b) from ((X.out).fr1 hf (by omega)).cell 0 rfl)
  have HX1 := Lib.hid (fun W (hf : Fr1 (w.heap.size + 2) w3.drew W) => show W.cell? ⟨w.heap.size, 1, none⟩ = some (.slice A n c) from ((X.out).fr1 hf (by omega)).cell 1 rfl)
  have HZ := Lib.hid (fun W (hf : Fr1 (w.heap.size + 2) w3.drew W) => show Blk W (w.heap.size + 1) (ddA d Bd ed) 28 from (Z.out).fr1 hf (by omega))
  have HCO := Lib.hid (fun W (hf : Fr0 w3.drew W) => show Calls Try.prog 27 #[.slice A n c] W fun e w' => ∃ B c', e = .returned (.slice B n c') ∧ DsG (SlO W.heap.size) W.heap.size w' (.slice B n c') l ∧ Fr0 W w' from by
    have hh := (H.out).fr0 (Fr0.trans FA.out hf)
    rw [← HNL.out] at hh ⊢
    exact copied_any hh (by rw [HNL.out]; omega) (fun x hx => by have := mayD_len (I4.out x hx); omega))
  have HCD := Lib.hid (fun W g (hf : Fr0 w3.drew W) (hb : Blk W g (ddA d Bd ed) 28) => show Calls Try.prog 27 #[.slice (some ⟨g, 0, none⟩) 1 1] W fun e w' => ∃ B c', e = .returned (.slice B 1 c') ∧ DsG (SlO W.heap.size) W.heap.size w' (.slice B 1 c') [d] ∧ Fr0 W w' from
    copied_any (l := [d]) ⟨[(_, d)], rfl, rd_dd hb, fun y hy => by rw [List.mem_singleton] at hy; subst hy; exact (HD0.out).fr0 (Fr0.trans FA.out hf)⟩ (by simp) (fun x hx => by rw [List.mem_singleton] at hx; subst hx; have := DL.out; omega))
  have VAF : ∀ {W V : World} {v : Value}, Fr0 w3.drew W → (∀ i, ownB v i → w3.drew.heap.size ≤ i) → Fr (ownB v) W V → Fr1 (w.heap.size + 2) w3.drew V := fun h1 h2 h3 => Fr1.of0 (Fr.then h1 h3 (fun i hi hl => by have := h2 i hi; omega))
  have LOW := Lib.hid (show w.heap.size + 2 < w3.drew.heap.size from (Y.out).lt)
  clear x0 x1 z0 z1 z2 z3 HM HC HMD HF BX BZ BY F1 F2 X1 X2 Y1 Y2 Z1 Z2 H HD0 BN DN
  refine wp_region_held_drew (S := (fun W => Fr1 (w.heap.size + 2) w3.drew W)) (by kernel_rfl) (Fr1.refl (w.heap.size + 2) _) (fun hHeld => ?_)
  generalize w3.drew = wa at *
  have _hI : True := trivial
  clear _hI
  refine takeH (i := 0) rfl (by kernel_rfl) (by kernel_rfl) (by kernel_rfl) (fun _ _ _ h => h) (.inl ⟨rfl, fun W hW => (by go_simp; try rfl)⟩) (Fr1.refl (w.heap.size + 2) wa) ?_
  try simp only [Act.put, List.setIfInBounds_toArray, List.set_cons_zero, List.set_cons_succ]
  have _hI : True := trivial
  clear _hI
  refine takeH (i := 1) rfl (by kernel_rfl) (by kernel_rfl) (by kernel_rfl) (fun _ _ _ h => h) (.inl ⟨rfl, fun W hW => (by have c0 := HX0.out W hW; go_simp; try rfl)⟩) (Fr1.refl (w.heap.size + 2) wa) ?_
  try simp only [Act.put, List.setIfInBounds_toArray, List.set_cons_zero, List.set_cons_succ]
  have _hI : True := trivial
  clear _hI
  refine takeH (i := 2) rfl (by kernel_rfl) (by kernel_rfl) (by kernel_rfl) (fun _ _ _ h => h) (.inl ⟨rfl, fun W hW => (by go_simp; try rfl)⟩) (Fr1.refl (w.heap.size + 2) wa) ?_
  try simp only [Act.put, List.setIfInBounds_toArray, List.set_cons_zero, List.set_cons_succ]
  have _hI : True := trivial
  clear _hI
  refine takeH (i := 3) rfl (by kernel_rfl) (by kernel_rfl) (by kernel_rfl) (fun _ _ _ h => h) (.inl ⟨rfl, fun W hW => (by have c1 := HX1.out W hW; go_simp; try rfl)⟩) (Fr1.refl (w.heap.size + 2) wa) ?_
  try simp only [Act.put, List.setIfInBounds_toArray, List.set_cons_zero, List.set_cons_succ]
  have _hI : True := trivial
  clear _hI
  refine takeH (i := 5) rfl (by kernel_rfl) (by kernel_rfl) (by kernel_rfl) (fun _ _ _ h => h) (yields_load_blk rfl 28 _ rfl (w.heap.size + 1) rfl 28 (ddA d Bd ed) (fun W hW => HZ.out W hW) _ Try.underlying28 rfl (by kernel_rfl)) (Fr1.refl (w.heap.size + 2) wa) ?_
  try simp only [Act.put, List.setIfInBounds_toArray, List.set_cons_zero, List.set_cons_succ]
  have _hI : True := trivial
  clear _hI
  refine wpAnyH_ready (rs := [4, 6]) (by kernel_rfl) (by simp) (consG rfl rfl (fun K hK => ?_) (consG rfl rfl (fun K hK => ?_) AllReadyH.nil))
  ·
    have _hI : True := trivial
    clear _hI
    go_simp
    refine (HCO.out _ (Fr0.refl wa)).mono ?_
    rintro e Wn2 ⟨B4, c4, rfl, hd, hf⟩
    have UF := Lib.hid hf
    have D4 := Lib.hid (hd.mono (b2 := w.heap.size) (T2 := SlO w.heap.size) (LW.out _ (Fr0.refl wa)) (fun v t h => h.low (LW.out _ (Fr0.refl wa))))
    have O4 := Lib.hid (fun i hi => show wa.heap.size ≤ i from Nat.le_trans (Nat.le_refl _) (hd.lo i hi).1)
    clear hd hf
    refine hK.out _ _ (Fr1.of0 UF.out) ?_
    clear hK
    try simp only [Act.put, List.setIfInBounds_toArray, List.set_cons_zero, List.set_cons_succ]
    have _hI : True := trivial
    clear _hI
    refine wpAnyH_ready (rs := [6]) (by kernel_rfl) (by simp) (consG rfl rfl (fun K hK => ?_) AllReadyH.nil)
    have _hI : True := trivial
    clear _hI
    refine wp_built_blk 22 28 _ _ rfl (ddA d Bd ed) (fun W => by unfold ddA; go_simp; try rfl) ?_
    intro gb Wn hB hf hg
    have UF2 := Lib.hid (Fr0.trans UF.out hf)
    replace D4 := Lib.hid ((D4.out).fr0 hf (fun v t h => h.fr0 hf))
    replace UF := UF2
    clear UF2
    have G6 := Lib.hid hB
    clear hB hf hg
    refine hK.out _ _ (Fr1.of0 UF.out) ?_
    clear hK
    try simp only [Act.put, List.setIfInBounds_toArray, List.set_cons_zero, List.set_cons_succ]
    have _hI : True := trivial
    clear _hI
    refine wpAnyH_ready (rs := [7]) (by kernel_rfl) (by simp) (consG rfl rfl (fun K hK => ?_) AllReadyH.nil)
    have _hI : True := trivial
    clear _hI
    go_simp
    refine (HCD.out _ _ UF.out G6.out).mono ?_
    rintro e Wn3 ⟨B7, c7, rfl, hd, hf⟩
    have D7 := Lib.hid (hd.mono (b2 := w.heap.size) (T2 := SlO w.heap.size) (LW.out _ UF.out) (fun v t h => h.low (LW.out _ UF.out)))
    replace D4 := Lib.hid ((D4.out).fr0 hf (fun v t h => h.fr0 hf))
    replace UF := Lib.hid (Fr0.trans UF.out hf)
    clear hd hf
    refine hK.out _ _ (Fr1.of0 UF.out) ?_
    clear hK
    try simp only [Act.put, List.setIfInBounds_toArray, List.set_cons_zero, List.set_cons_succ]
    have _hI : True := trivial
    clear _hI
    refine wpAnyH_ready (rs := [8]) (by kernel_rfl) (by simp) (consG rfl rfl (fun K hK => ?_) AllReadyH.nil)
    have _hI : True := trivial
    clear _hI
    refine wp_append_two (base := w.heap.size) (n := n) (m := 1) _ _ rfl (LW.out _ UF.out) D4.out rfl D7.out rfl HNL.out rfl hn2 ?_
    intro A8 c8 Wn4 hD hF
    have D8 := Lib.hid hD
    have UG := Lib.hid (show Fr0 w Wn4 from Fr.then (Fr0.trans FA.out UF.out) hF (fun i hi hl => by have := ((D4.out).lo i hi).1; omega))
    have Y8 := Lib.hid (((Y.out).fr0 UF.out).fr hF (fun hq => (D4.out).ne ((Y.out).fr0 UF.out) (by decide) _ hq rfl))
    have VA := Lib.hid (show Fr1 (w.heap.size + 2) wa Wn4 from VAF UF.out O4.out hF)
    clear hD hF
    refine hK.out _ _ VA.out ?_
    clear hK
    try simp only [Act.put, List.setIfInBounds_toArray, List.set_cons_zero, List.set_cons_succ]
    have _hI : True := trivial
    clear _hI
    refine takeH (i := 9) rfl (by kernel_rfl) (by kernel_rfl) (by kernel_rfl) (fun _ _ _ h => h) (v := .agg #[.int .i64 b, .slice A8 (n + 1) c8]) (.inl ⟨rfl, fun W hW => (by go_simp; try rfl)⟩) VA.out ?_
    try simp only [Act.put, List.setIfInBounds_toArray, List.set_cons_zero, List.set_cons_succ]
    have _hI : True := trivial
    clear _hI
    refine wpAnyH_ready (rs := [10]) (by kernel_rfl) (by simp) (consG rfl rfl (fun K hK => ?_) AllReadyH.nil)
    have _hI : True := trivial
    clear _hI
    refine wp_store_blk ?qty1 ?qex1 ?qey1 ?qho1 ?qgg1 ?qcc1 ?qhx1 ?qhy1 ?qtt1 ?qold1 ?qhb1 ?qhi1 ?qhd1 ?qh11 ?qre1
    case qcc1 => exact #[.int .i64 b, .slice A8 (n + 1) c8]
    case qty1 => exact 24
    case qtt1 => exact 24
    case qgg1 => exact (w.heap.size + 2)
    case qold1 => exact #[.int .i64 0, .slice none 0 0]
    case qex1 => exact (.tmp 4)
    case qey1 => exact (.tmp 36)
    case qho1 => rfl
    case qhb1 => exact Y8.out
    case qhi1 => kernel_rfl
    case qhd1 => rfl
    case qh11 => first | rfl | (simp [Value.oneCell'])
    case qhx1 => rfl
    case qhy1 => rfl
    intro V hB hf
    have VB := Lib.hid hB
    have VD := Lib.hid ((D8.out).frS hf Y8.out (by decide) (by decide))
    have VF := Lib.hid (Fr0.new UG.out hf (by omega))
    have VV := Lib.hid (Fr1.trans VA.out hf)
    clear hf hB
    refine hK.out _ _ VV.out ?_
    clear hK
    try simp only [Act.put, List.setIfInBounds_toArray, List.set_cons_zero, List.set_cons_succ]
    have _hI : True := trivial
    clear _hI
    refine takeH (i := 11) rfl (by kernel_rfl) (by kernel_rfl) (by kernel_rfl) (fun _ _ _ h => h) (.inl ⟨rfl, fun W hW => (by go_simp; try rfl)⟩) VV.out ?_
    try simp only [Act.put, List.setIfInBounds_toArray, List.set_cons_zero, List.set_cons_succ]
    refine wpAnyH_done (by kernel_rfl) ?_ _
    have VBO := VB.out
    go_wp21
    rw [HV.out]
    refine bodyPost_ret (v := .tuple #[.agg #[.int .i64 b, .slice A8 (n + 1) c8], .int .i64 0]) (sret2 rfl VBO rfl rfl) rfl ⟨A8, c8, by rw [HLL.out], by rw [HLL.out]; exact VD.out, VF.out⟩
  ·
    have _hI : True := trivial
    clear _hI
    refine wp_built_blk 22 28 _ _ rfl (ddA d Bd ed) (fun W => by unfold ddA; go_simp; try rfl) ?_
    intro gb Wn hB hf hg
    have UF := Lib.hid hf
    have UFo := Lib.hid hf
    have G6 := Lib.hid hB
    clear hB hf hg
    refine hK.out _ _ (Fr1.of0 UF.out) ?_
    clear hK
    try simp only [Act.put, List.setIfInBounds_toArray, List.set_cons_zero, List.set_cons_succ]
    have _hI : True := trivial
    clear _hI
    refine wpAnyH_ready (rs := [4]) (by kernel_rfl) (by simp) (consG rfl rfl (fun K hK => ?_) AllReadyH.nil)
    have _hI : True := trivial
    clear _hI
    go_simp
    refine (HCO.out _ UF.out).mono ?_
    rintro e Wn2 ⟨B4, c4, rfl, hd, hf⟩
    have G6b := Lib.hid ((G6.out).fr0 hf)
    replace UF := Lib.hid (Fr0.trans UF.out hf)
    replace G6 := G6b
    clear G6b
    have D4 := Lib.hid (hd.mono (b2 := w.heap.size) (T2 := SlO w.heap.size) (LW.out _ UFo.out) (fun v t h => h.low (LW.out _ UFo.out)))
    have O4 := Lib.hid (fun i hi => show wa.heap.size ≤ i from Nat.le_trans (UFo.out).size (hd.lo i hi).1)
    clear hd hf
    refine hK.out _ _ (Fr1.of0 UF.out) ?_
    clear hK
    try simp only [Act.put, List.setIfInBounds_toArray, List.set_cons_zero, List.set_cons_succ]
    have _hI : True := trivial
    clear _hI
    refine wpAnyH_ready (rs := [7]) (by kernel_rfl) (by simp) (consG rfl rfl (fun K hK => ?_) AllReadyH.nil)
    have _hI : True := trivial
    clear _hI
    go_simp
    refine (HCD.out _ _ UF.out G6.out).mono ?_
    rintro e Wn3 ⟨B7, c7, rfl, hd, hf⟩
    have D7 := Lib.hid (hd.mono (b2 := w.heap.size) (T2 := SlO w.heap.size) (LW.out _ UF.out) (fun v t h => h.low (LW.out _ UF.out)))
    replace D4 := Lib.hid ((D4.out).fr0 hf (fun v t h => h.fr0 hf))
    replace UF := Lib.hid (Fr0.trans UF.out hf)
    clear hd hf
    refine hK.out _ _ (Fr1.of0 UF.out) ?_
    clear hK
    try simp only [Act.put, List.setIfInBounds_toArray, List.set_cons_zero, List.set_cons_succ]
    have _hI : True := trivial
    clear _hI
    refine wpAnyH_ready (rs := [8]) (by kernel_rfl) (by simp) (consG rfl rfl (fun K hK => ?_) AllReadyH.nil)
    have _hI : True := trivial
    clear _hI
    refine wp_append_two (base := w.heap.size) (n := n) (m := 1) _ _ rfl (LW.out _ UF.out) D4.out rfl D7.out rfl HNL.out rfl hn2 ?_
    intro A8 c8 Wn4 hD hF
    have D8 := Lib.hid hD
    have UG := Lib.hid (show Fr0 w Wn4 from Fr.then (Fr0.trans FA.out UF.out) hF (fun i hi hl => by have := ((D4.out).lo i hi).1; omega))
    have Y8 := Lib.hid (((Y.out).fr0 UF.out).fr hF (fun hq => (D4.out).ne ((Y.out).fr0 UF.out) (by decide) _ hq rfl))
    have VA := Lib.hid (show Fr1 (w.heap.size + 2) wa Wn4 from VAF UF.out O4.out hF)
    clear hD hF
    refine hK.out _ _ VA.out ?_
    clear hK
    try simp only [Act.put, List.setIfInBounds_toArray, List.set_cons_zero, List.set_cons_succ]
    have _hI : True := trivial
    clear _hI
    refine takeH (i := 9) rfl (by kernel_rfl) (by kernel_rfl) (by kernel_rfl) (fun _ _ _ h => h) (v := .agg #[.int .i64 b, .slice A8 (n + 1) c8]) (.inl ⟨rfl, fun W hW => (by go_simp; try rfl)⟩) VA.out ?_
    try simp only [Act.put, List.setIfInBounds_toArray, List.set_cons_zero, List.set_cons_succ]
    have _hI : True := trivial
    clear _hI
    refine wpAnyH_ready (rs := [10]) (by kernel_rfl) (by simp) (consG rfl rfl (fun K hK => ?_) AllReadyH.nil)
    have _hI : True := trivial
    clear _hI
    refine wp_store_blk ?qty2 ?qex2 ?qey2 ?qho2 ?qgg2 ?qcc2 ?qhx2 ?qhy2 ?qtt2 ?qold2 ?qhb2 ?qhi2 ?qhd2 ?qh12 ?qre2
    case qcc2 => exact #[.int .i64 b, .slice A8 (n + 1) c8]
    case qty2 => exact 24
    case qtt2 => exact 24
    case qgg2 => exact (w.heap.size + 2)
    case qold2 => exact #[.int .i64 0, .slice none 0 0]
    case qex2 => exact (.tmp 4)
    case qey2 => exact (.tmp 36)
    case qho2 => rfl
    case qhb2 => exact Y8.out
    case qhi2 => kernel_rfl
    case qhd2 => rfl
    case qh12 => first | rfl | (simp [Value.oneCell'])
    case qhx2 => rfl
    case qhy2 => rfl
    intro V hB hf
    have VB := Lib.hid hB
    have VD := Lib.hid ((D8.out).frS hf Y8.out (by decide) (by decide))
    have VF := Lib.hid (Fr0.new UG.out hf (by omega))
    have VV := Lib.hid (Fr1.trans VA.out hf)
    clear hf hB
    refine hK.out _ _ VV.out ?_
    clear hK
    try simp only [Act.put, List.setIfInBounds_toArray, List.set_cons_zero, List.set_cons_succ]
    have _hI : True := trivial
    clear _hI
    refine takeH (i := 11) rfl (by kernel_rfl) (by kernel_rfl) (by kernel_rfl) (fun _ _ _ h => h) (.inl ⟨rfl, fun W hW => (by go_simp; try rfl)⟩) VV.out ?_
    try simp only [Act.put, List.setIfInBounds_toArray, List.set_cons_zero, List.set_cons_succ]
    refine wpAnyH_done (by kernel_rfl) ?_ _
    have VBO := VB.out
    go_wp21
    rw [HV.out]
    refine bodyPost_ret (v := .tuple #[.agg #[.int .i64 b, .slice A8 (n + 1) c8], .int .i64 0]) (sret2 rfl VBO rfl rfl) rfl ⟨A8, c8, by rw [HLL.out], by rw [HLL.out]; exact VD.out, VF.out⟩

end Go.Proofs.Ytcbllkkbpjobpaa
