/- The deeds of one stream that another one has not. Conditions stand in the statements. -/
import Derived.Test.YtcbllkkbpjobpaaInForm
import Derived.Test.YtcbllkkbpjobpaaQuiet
import Derived.Test.YtcbllkkbpjobpaaStepsB
set_option linter.unusedVariables false
set_option linter.unusedSimpArgs false
namespace Go.Proofs.Ytcbllkkbpjobpaa
open Go.RowKit

def formsD (l : List Dd) : List UInt8 := l.flatMap formD
theorem formsD_take {l : List Dd} {k : Nat} (hk : k < l.length) : formsD (l.take (k + 1)) = formsD (l.take k) ++ formD l[k] := by
  unfold formsD
  rw [List.take_succ_eq_append_getElem hk, List.flatMap_append]; simp
theorem formsD_len {l : List Dd} (h : ∀ x ∈ l, mayD x = true) : (formsD l).length ≤ l.length * 60 := by
  unfold formsD
  induction l with
  | nil => simp
  | cons x r ih =>
    rw [List.flatMap_cons, List.length_append, List.length_cons]
    have h1 := formD_len (h x (by simp))
    have h2 := ih (fun y hy => h y (by simp [hy]))
    omega
/-- What Diff tells: the bytes, the error. -/
def diffP (b1 : Int) (l1 : List Dd) (b2 : Int) (l2 : List Dd) : List UInt8 × Int := if mayS b1 l1 = true ∧ mayS b2 l2 = true ∧ ¬ cntS b1 l1 < b2 ∧ ¬ cntS b2 l2 < cntS b1 l1 then (formsD (sinceL b2 l2 (cntS b1 l1)), 0) else ([], 2)
theorem cntS_bnd (b : Int) (l : List Dd) : 0 ≤ cntS b l ∧ cntS b l ≤ 1073741824 := by
  unfold cntS
  split
  · rename_i h; have := mayS_bnd h; omega
  · omega
theorem sinceL_may {b m : Int} {l : List Dd} (h : mayS b l = true) : ∀ x ∈ sinceL b l m, mayD x = true := by
  unfold sinceL
  rw [if_pos h]
  intro x hx
  exact (mayS_bnd h).2.2.2 x (List.mem_of_mem_drop hx)
theorem sinceL_len {b m : Int} {l : List Dd} (h : mayS b l = true) : (sinceL b l m).length ≤ 64 := by
  unfold sinceL
  rw [if_pos h, List.length_drop]
  have := (mayS_bnd h).2.1
  omega
set_option maxHeartbeats 8000000 in
set_option maxRecDepth 100000 in
theorem diff_any {b1 b2 : Int} {A1 A2 : Option Addr} {c1 c2 : Nat} {l1 l2 : List Dd} {w : World} (h1 : Ds w (.slice A1 l1.length c1) l1) (h2 : Ds w (.slice A2 l2.length c2) l2) :
    Calls Try.prog 18 #[.agg #[.int .i64 b1, .slice A1 l1.length c1], .agg #[.int .i64 b2, .slice A2 l2.length c2]] w fun e w' => ∃ B c', e = .returned (.tuple #[.slice B (diffP b1 l1 b2 l2).1.length c', .int .i64 (diffP b1 l1 b2 l2).2]) ∧ RdB w' (.slice B (diffP b1 l1 b2 l2).1.length c') (diffP b1 l1 b2 l2).1 ∧ Fr0 w w' := by
  obtain ⟨wa, hwa⟩ : ∃ W, W = (w.alloc (.cells #[.int .i64 b1, .slice A1 l1.length c1] 24)).alloc (.cells #[.int .i64 b2, .slice A2 l2.length c2] 24) := ⟨_, rfl⟩
  have FX := Lib.hid (show Fr0 w wa by rw [hwa]; exact ((Fr0.refl w).alloc _).alloc _)
  have BX := Lib.hid (show Blk wa w.heap.size #[.int .i64 b1, .slice A1 l1.length c1] 24 by rw [hwa]; exact (Blk.new w _ 24).alloc _)
  have BY := Lib.hid (show Blk wa (w.heap.size + 1) #[.int .i64 b2, .slice A2 l2.length c2] 24 by rw [hwa]; have := Blk.new (w.alloc (.cells #[.int .i64 b1, .slice A1 l1.length c1] 24)) #[.int .i64 b2, .slice A2 l2.length c2] 24; simpa using this)
  have HM1 := Lib.hid (fun W (hf : Fr0 w W) => mayS_any (b := b1) (h1.fr0 hf))
  have HM2 := Lib.hid (fun W (hf : Fr0 w W) => mayS_any (b := b2) (h2.fr0 hf))
  have HC1 := Lib.hid (fun W (hf : Fr0 w W) => count_any (b := b1) (h1.fr0 hf))
  have HC2 := Lib.hid (fun W (hf : Fr0 w W) => count_any (b := b2) (h2.fr0 hf))
  have hcb := cntS_bnd b1 l1
  have HS := Lib.hid (fun W (hf : Fr0 w W) => since_any (b := b2) (m := cntS b1 l1) (h2.fr0 hf) (by omega))
  have HP := Lib.hid (show diffP b1 l1 b2 l2 = if mayS b1 l1 = true ∧ mayS b2 l2 = true ∧ ¬ cntS b1 l1 < b2 ∧ ¬ cntS b2 l2 < cntS b1 l1 then (formsD (sinceL b2 l2 (cntS b1 l1)), 0) else ([], 2) from rfl)
  have HSM := Lib.hid (fun (h : mayS b2 l2 = true) => show (∀ x ∈ sinceL b2 l2 (cntS b1 l1), mayD x = true) ∧ (sinceL b2 l2 (cntS b1 l1)).length ≤ 64 from ⟨sinceL_may h, sinceL_len h⟩)
  clear h1 h2 hcb
  obtain ⟨n1, hn1⟩ : ∃ n, n = l1.length := ⟨_, rfl⟩
  obtain ⟨n2, hn2⟩ : ∃ n, n = l2.length := ⟨_, rfl⟩
  obtain ⟨s1, hs1⟩ : ∃ n, n = mayS b1 l1 := ⟨_, rfl⟩
  obtain ⟨s2, hs2⟩ : ∃ n, n = mayS b2 l2 := ⟨_, rfl⟩
  obtain ⟨k1, hk1⟩ : ∃ n, n = cntS b1 l1 := ⟨_, rfl⟩
  obtain ⟨k2, hk2⟩ : ∃ n, n = cntS b2 l2 := ⟨_, rfl⟩
  rw [← hk1] at HC1 HS HP HSM
  rw [← hk2] at HC2 HP
  rw [← hs1] at HM1 HP
  rw [← hs2] at HM2 HP HSM
  rw [← hn1] at HM1 HC1 BX hwa ⊢
  rw [← hn2] at HM2 HC2 HS BY hwa ⊢
  obtain ⟨L, hL⟩ : ∃ n, n = sinceL b2 l2 k1 := ⟨_, rfl⟩
  obtain ⟨P, hP⟩ : ∃ n, n = diffP b1 l1 b2 l2 := ⟨_, rfl⟩
  rw [← hL] at HS HP HSM
  rw [← hP] at HP ⊢
  clear hn1 hn2 hs1 hs2 hk1 hk2 hL hP
  cases s1
  · have HV := Lib.hid (show P = ([], 2) by rw [HP.out, if_neg (by simp)])
    clear HP
    go_enter Try.func18, Try.ntmps18
    go_upto_region 1 with (fail)
    rw [← hwa]
    refine wp_region_class (fun W => Fr0 wa W) (by kernel_rfl) (by kernel_rfl) ((Fr0.refl _).drew) ?_
    try simp only [Act.put, List.setIfInBounds_toArray, List.set_cons_zero, List.set_cons_succ]
    refine q_load rfl 24 _ rfl w.heap.size rfl 24 #[.int .i64 b1, .slice A1 n1 c1] (fun W hW => (BX.out).fr0 hW) _ Try.underlying24 rfl (by kernel_rfl) ?_
    try simp only [Act.put, List.setIfInBounds_toArray, List.set_cons_zero, List.set_cons_succ]
    refine q_call rfl 22 #[.agg #[.int .i64 b1, .slice A1 n1 c1]] (fun _ => by go_simp; try rfl) (fun W hW => ((HM1.out W (Fr0.trans FX.out hW)).mono (fun e w' h => ⟨h.1, hW.trans h.2⟩))) ?_
    try simp only [Act.put, List.setIfInBounds_toArray, List.set_cons_zero, List.set_cons_succ]
    refine q_val rfl (fun W hW => by go_simp; try rfl) ?_
    try simp only [Act.put, List.setIfInBounds_toArray, List.set_cons_zero, List.set_cons_succ]
    refine q_move rfl _ rfl ?_
    try simp only [Act.put, List.setIfInBounds_toArray, List.set_cons_zero, List.set_cons_succ]
    refine q_skip rfl ?_
    try simp only [Act.put, List.setIfInBounds_toArray, List.set_cons_zero, List.set_cons_succ]
    refine q_skip rfl ?_
    try simp only [Act.put, List.setIfInBounds_toArray, List.set_cons_zero, List.set_cons_succ]
    refine q_skip rfl ?_
    try simp only [Act.put, List.setIfInBounds_toArray, List.set_cons_zero, List.set_cons_succ]
    refine q_val rfl (fun W hW => by go_simp; try rfl) ?_
    try simp only [Act.put, List.setIfInBounds_toArray, List.set_cons_zero, List.set_cons_succ]
    refine q_move rfl _ rfl ?_
    try simp only [Act.put, List.setIfInBounds_toArray, List.set_cons_zero, List.set_cons_succ]
    refine q_skip rfl ?_
    try simp only [Act.put, List.setIfInBounds_toArray, List.set_cons_zero, List.set_cons_succ]
    refine q_skip rfl ?_
    try simp only [Act.put, List.setIfInBounds_toArray, List.set_cons_zero, List.set_cons_succ]
    refine q_skip rfl ?_
    try simp only [Act.put, List.setIfInBounds_toArray, List.set_cons_zero, List.set_cons_succ]
    refine q_skip rfl ?_
    try simp only [Act.put, List.setIfInBounds_toArray, List.set_cons_zero, List.set_cons_succ]
    refine q_skip rfl ?_
    try simp only [Act.put, List.setIfInBounds_toArray, List.set_cons_zero, List.set_cons_succ]
    refine q_val rfl (fun W hW => by go_simp; try rfl) ?_
    try simp only [Act.put, List.setIfInBounds_toArray, List.set_cons_zero, List.set_cons_succ]
    refine q_move rfl _ rfl ?_
    try simp only [Act.put, List.setIfInBounds_toArray, List.set_cons_zero, List.set_cons_succ]
    refine q_skip rfl ?_
    try simp only [Act.put, List.setIfInBounds_toArray, List.set_cons_zero, List.set_cons_succ]
    refine q_skip rfl ?_
    try simp only [Act.put, List.setIfInBounds_toArray, List.set_cons_zero, List.set_cons_succ]
    refine q_skip rfl ?_
    try simp only [Act.put, List.setIfInBounds_toArray, List.set_cons_zero, List.set_cons_succ]
    refine q_skip rfl ?_
    try simp only [Act.put, List.setIfInBounds_toArray, List.set_cons_zero, List.set_cons_succ]
    refine q_skip rfl ?_
    try simp only [Act.put, List.setIfInBounds_toArray, List.set_cons_zero, List.set_cons_succ]
    refine q_val rfl (fun W hW => by go_simp; try rfl) ?_
    try simp only [Act.put, List.setIfInBounds_toArray, List.set_cons_zero, List.set_cons_succ]
    refine q_nil ?_
    intro w' hC
    go_wp2_with fail
    go_ret2
    exact ⟨none, 0, by rw [HV.out]; rfl, by rw [HV.out]; exact RdB.nil _, Fr0.trans FX.out hC⟩
  cases s2
  · have HV := Lib.hid (show P = ([], 2) by rw [HP.out, if_neg (by simp)])
    clear HP
    go_enter Try.func18, Try.ntmps18
    go_upto_region 1 with (fail)
    rw [← hwa]
    refine wp_region_class (fun W => Fr0 wa W) (by kernel_rfl) (by kernel_rfl) ((Fr0.refl _).drew) ?_
    try simp only [Act.put, List.setIfInBounds_toArray, List.set_cons_zero, List.set_cons_succ]
    refine q_load rfl 24 _ rfl w.heap.size rfl 24 #[.int .i64 b1, .slice A1 n1 c1] (fun W hW => (BX.out).fr0 hW) _ Try.underlying24 rfl (by kernel_rfl) ?_
    try simp only [Act.put, List.setIfInBounds_toArray, List.set_cons_zero, List.set_cons_succ]
    refine q_call rfl 22 #[.agg #[.int .i64 b1, .slice A1 n1 c1]] (fun _ => by go_simp; try rfl) (fun W hW => ((HM1.out W (Fr0.trans FX.out hW)).mono (fun e w' h => ⟨h.1, hW.trans h.2⟩))) ?_
    try simp only [Act.put, List.setIfInBounds_toArray, List.set_cons_zero, List.set_cons_succ]
    refine q_val rfl (fun W hW => by go_simp; try rfl) ?_
    try simp only [Act.put, List.setIfInBounds_toArray, List.set_cons_zero, List.set_cons_succ]
    refine q_move rfl _ rfl ?_
    try simp only [Act.put, List.setIfInBounds_toArray, List.set_cons_zero, List.set_cons_succ]
    refine q_load rfl 24 _ rfl (w.heap.size + 1) rfl 24 #[.int .i64 b2, .slice A2 n2 c2] (fun W hW => (BY.out).fr0 hW) _ Try.underlying24 rfl (by kernel_rfl) ?_
    try simp only [Act.put, List.setIfInBounds_toArray, List.set_cons_zero, List.set_cons_succ]
    refine q_call rfl 22 #[.agg #[.int .i64 b2, .slice A2 n2 c2]] (fun _ => by go_simp; try rfl) (fun W hW => ((HM2.out W (Fr0.trans FX.out hW)).mono (fun e w' h => ⟨h.1, hW.trans h.2⟩))) ?_
    try simp only [Act.put, List.setIfInBounds_toArray, List.set_cons_zero, List.set_cons_succ]
    refine q_val rfl (fun W hW => by go_simp; try rfl) ?_
    try simp only [Act.put, List.setIfInBounds_toArray, List.set_cons_zero, List.set_cons_succ]
    refine q_val rfl (fun W hW => by go_simp; try rfl) ?_
    try simp only [Act.put, List.setIfInBounds_toArray, List.set_cons_zero, List.set_cons_succ]
    refine q_move rfl _ rfl ?_
    try simp only [Act.put, List.setIfInBounds_toArray, List.set_cons_zero, List.set_cons_succ]
    refine q_skip rfl ?_
    try simp only [Act.put, List.setIfInBounds_toArray, List.set_cons_zero, List.set_cons_succ]
    refine q_skip rfl ?_
    try simp only [Act.put, List.setIfInBounds_toArray, List.set_cons_zero, List.set_cons_succ]
    refine q_skip rfl ?_
    try simp only [Act.put, List.setIfInBounds_toArray, List.set_cons_zero, List.set_cons_succ]
    refine q_skip rfl ?_
    try simp only [Act.put, List.setIfInBounds_toArray, List.set_cons_zero, List.set_cons_succ]
    refine q_skip rfl ?_
    try simp only [Act.put, List.setIfInBounds_toArray, List.set_cons_zero, List.set_cons_succ]
    refine q_val rfl (fun W hW => by go_simp; try rfl) ?_
    try simp only [Act.put, List.setIfInBounds_toArray, List.set_cons_zero, List.set_cons_succ]
    refine q_move rfl _ rfl ?_
    try simp only [Act.put, List.setIfInBounds_toArray, List.set_cons_zero, List.set_cons_succ]
    refine q_skip rfl ?_
    try simp only [Act.put, List.setIfInBounds_toArray, List.set_cons_zero, List.set_cons_succ]
    refine q_skip rfl ?_
    try simp only [Act.put, List.setIfInBounds_toArray, List.set_cons_zero, List.set_cons_succ]
    refine q_skip rfl ?_
    try simp only [Act.put, List.setIfInBounds_toArray, List.set_cons_zero, List.set_cons_succ]
    refine q_skip rfl ?_
    try simp only [Act.put, List.setIfInBounds_toArray, List.set_cons_zero, List.set_cons_succ]
    refine q_skip rfl ?_
    try simp only [Act.put, List.setIfInBounds_toArray, List.set_cons_zero, List.set_cons_succ]
    refine q_val rfl (fun W hW => by go_simp; try rfl) ?_
    try simp only [Act.put, List.setIfInBounds_toArray, List.set_cons_zero, List.set_cons_succ]
    refine q_nil ?_
    intro w' hC
    go_wp2_with fail
    go_ret2
    exact ⟨none, 0, by rw [HV.out]; rfl, by rw [HV.out]; exact RdB.nil _, Fr0.trans FX.out hC⟩
  by_cases h1 : k1 < b2
  · have d1 : decide (k1 < b2) = true := by simpa using h1
    have HV := Lib.hid (show P = ([], 2) by rw [HP.out, if_neg (by simp [h1])])
    clear HP h1
    go_enter Try.func18, Try.ntmps18
    go_upto_region 1 with (fail)
    rw [← hwa]
    refine wp_region_class (fun W => Fr0 wa W) (by kernel_rfl) (by kernel_rfl) ((Fr0.refl _).drew) ?_
    try simp only [Act.put, List.setIfInBounds_toArray, List.set_cons_zero, List.set_cons_succ]
    refine q_load rfl 24 _ rfl w.heap.size rfl 24 #[.int .i64 b1, .slice A1 n1 c1] (fun W hW => (BX.out).fr0 hW) _ Try.underlying24 rfl (by kernel_rfl) ?_
    try simp only [Act.put, List.setIfInBounds_toArray, List.set_cons_zero, List.set_cons_succ]
    refine q_call rfl 22 #[.agg #[.int .i64 b1, .slice A1 n1 c1]] (fun _ => by go_simp; try rfl) (fun W hW => ((HM1.out W (Fr0.trans FX.out hW)).mono (fun e w' h => ⟨h.1, hW.trans h.2⟩))) ?_
    try simp only [Act.put, List.setIfInBounds_toArray, List.set_cons_zero, List.set_cons_succ]
    refine q_val rfl (fun W hW => by go_simp; try rfl) ?_
    try simp only [Act.put, List.setIfInBounds_toArray, List.set_cons_zero, List.set_cons_succ]
    refine q_move rfl _ rfl ?_
    try simp only [Act.put, List.setIfInBounds_toArray, List.set_cons_zero, List.set_cons_succ]
    refine q_load rfl 24 _ rfl (w.heap.size + 1) rfl 24 #[.int .i64 b2, .slice A2 n2 c2] (fun W hW => (BY.out).fr0 hW) _ Try.underlying24 rfl (by kernel_rfl) ?_
    try simp only [Act.put, List.setIfInBounds_toArray, List.set_cons_zero, List.set_cons_succ]
    refine q_call rfl 22 #[.agg #[.int .i64 b2, .slice A2 n2 c2]] (fun _ => by go_simp; try rfl) (fun W hW => ((HM2.out W (Fr0.trans FX.out hW)).mono (fun e w' h => ⟨h.1, hW.trans h.2⟩))) ?_
    try simp only [Act.put, List.setIfInBounds_toArray, List.set_cons_zero, List.set_cons_succ]
    refine q_val rfl (fun W hW => by go_simp; try rfl) ?_
    try simp only [Act.put, List.setIfInBounds_toArray, List.set_cons_zero, List.set_cons_succ]
    refine q_val rfl (fun W hW => by go_simp; try rfl) ?_
    try simp only [Act.put, List.setIfInBounds_toArray, List.set_cons_zero, List.set_cons_succ]
    refine q_move rfl _ rfl ?_
    try simp only [Act.put, List.setIfInBounds_toArray, List.set_cons_zero, List.set_cons_succ]
    refine q_load rfl 24 _ rfl w.heap.size rfl 24 #[.int .i64 b1, .slice A1 n1 c1] (fun W hW => (BX.out).fr0 hW) _ Try.underlying24 rfl (by kernel_rfl) ?_
    try simp only [Act.put, List.setIfInBounds_toArray, List.set_cons_zero, List.set_cons_succ]
    refine q_call rfl 23 #[.agg #[.int .i64 b1, .slice A1 n1 c1]] (fun _ => by go_simp; try rfl) (fun W hW => ((HC1.out W (Fr0.trans FX.out hW)).mono (fun e w' h => ⟨h.1, hW.trans h.2⟩))) ?_
    try simp only [Act.put, List.setIfInBounds_toArray, List.set_cons_zero, List.set_cons_succ]
    refine q_val rfl (fun W hW => by go_simp; try rfl) ?_
    try simp only [Act.put, List.setIfInBounds_toArray, List.set_cons_zero, List.set_cons_succ]
    refine q_val rfl (fun W hW => by have f := ((BY.out).fr0 hW).cell 0 rfl; go_simp; try rfl) ?_
    try simp only [Act.put, List.setIfInBounds_toArray, List.set_cons_zero, List.set_cons_succ]
    refine q_val rfl (fun W hW => by go_simp; try rfl) ?_
    try simp only [Act.put, List.setIfInBounds_toArray, List.set_cons_zero, List.set_cons_succ]
    refine q_val rfl (fun W hW => by go_simp; try rfl) ?_
    try simp only [Act.put, List.setIfInBounds_toArray, List.set_cons_zero, List.set_cons_succ]
    refine q_move rfl _ rfl ?_
    try simp only [Act.put, List.setIfInBounds_toArray, List.set_cons_zero, List.set_cons_succ]
    refine q_skip rfl ?_
    try simp only [Act.put, List.setIfInBounds_toArray, List.set_cons_zero, List.set_cons_succ]
    refine q_skip rfl ?_
    try simp only [Act.put, List.setIfInBounds_toArray, List.set_cons_zero, List.set_cons_succ]
    refine q_skip rfl ?_
    try simp only [Act.put, List.setIfInBounds_toArray, List.set_cons_zero, List.set_cons_succ]
    refine q_skip rfl ?_
    try simp only [Act.put, List.setIfInBounds_toArray, List.set_cons_zero, List.set_cons_succ]
    refine q_skip rfl ?_
    try simp only [Act.put, List.setIfInBounds_toArray, List.set_cons_zero, List.set_cons_succ]
    refine q_val rfl (fun W hW => by go_simp; try rfl) ?_
    try simp only [Act.put, List.setIfInBounds_toArray, List.set_cons_zero, List.set_cons_succ]
    refine q_nil ?_
    intro w' hC
    go_wp2_with fail
    go_ret2
    exact ⟨none, 0, by rw [HV.out]; rfl, by rw [HV.out]; exact RdB.nil _, Fr0.trans FX.out hC⟩
  have d1 : decide (k1 < b2) = false := by simpa using h1
  by_cases h2 : k2 < k1
  · have d2 : decide (k2 < k1) = true := by simpa using h2
    have HV := Lib.hid (show P = ([], 2) by rw [HP.out, if_neg (by simp [h2])])
    clear HP h1 h2
    go_enter Try.func18, Try.ntmps18
    go_upto_region 1 with (fail)
    rw [← hwa]
    refine wp_region_class (fun W => Fr0 wa W) (by kernel_rfl) (by kernel_rfl) ((Fr0.refl _).drew) ?_
    try simp only [Act.put, List.setIfInBounds_toArray, List.set_cons_zero, List.set_cons_succ]
    refine q_load rfl 24 _ rfl w.heap.size rfl 24 #[.int .i64 b1, .slice A1 n1 c1] (fun W hW => (BX.out).fr0 hW) _ Try.underlying24 rfl (by kernel_rfl) ?_
    try simp only [Act.put, List.setIfInBounds_toArray, List.set_cons_zero, List.set_cons_succ]
    refine q_call rfl 22 #[.agg #[.int .i64 b1, .slice A1 n1 c1]] (fun _ => by go_simp; try rfl) (fun W hW => ((HM1.out W (Fr0.trans FX.out hW)).mono (fun e w' h => ⟨h.1, hW.trans h.2⟩))) ?_
    try simp only [Act.put, List.setIfInBounds_toArray, List.set_cons_zero, List.set_cons_succ]
    refine q_val rfl (fun W hW => by go_simp; try rfl) ?_
    try simp only [Act.put, List.setIfInBounds_toArray, List.set_cons_zero, List.set_cons_succ]
    refine q_move rfl _ rfl ?_
    try simp only [Act.put, List.setIfInBounds_toArray, List.set_cons_zero, List.set_cons_succ]
    refine q_load rfl 24 _ rfl (w.heap.size + 1) rfl 24 #[.int .i64 b2, .slice A2 n2 c2] (fun W hW => (BY.out).fr0 hW) _ Try.underlying24 rfl (by kernel_rfl) ?_
    try simp only [Act.put, List.setIfInBounds_toArray, List.set_cons_zero, List.set_cons_succ]
    refine q_call rfl 22 #[.agg #[.int .i64 b2, .slice A2 n2 c2]] (fun _ => by go_simp; try rfl) (fun W hW => ((HM2.out W (Fr0.trans FX.out hW)).mono (fun e w' h => ⟨h.1, hW.trans h.2⟩))) ?_
    try simp only [Act.put, List.setIfInBounds_toArray, List.set_cons_zero, List.set_cons_succ]
    refine q_val rfl (fun W hW => by go_simp; try rfl) ?_
    try simp only [Act.put, List.setIfInBounds_toArray, List.set_cons_zero, List.set_cons_succ]
    refine q_val rfl (fun W hW => by go_simp; try rfl) ?_
    try simp only [Act.put, List.setIfInBounds_toArray, List.set_cons_zero, List.set_cons_succ]
    refine q_move rfl _ rfl ?_
    try simp only [Act.put, List.setIfInBounds_toArray, List.set_cons_zero, List.set_cons_succ]
    refine q_load rfl 24 _ rfl w.heap.size rfl 24 #[.int .i64 b1, .slice A1 n1 c1] (fun W hW => (BX.out).fr0 hW) _ Try.underlying24 rfl (by kernel_rfl) ?_
    try simp only [Act.put, List.setIfInBounds_toArray, List.set_cons_zero, List.set_cons_succ]
    refine q_call rfl 23 #[.agg #[.int .i64 b1, .slice A1 n1 c1]] (fun _ => by go_simp; try rfl) (fun W hW => ((HC1.out W (Fr0.trans FX.out hW)).mono (fun e w' h => ⟨h.1, hW.trans h.2⟩))) ?_
    try simp only [Act.put, List.setIfInBounds_toArray, List.set_cons_zero, List.set_cons_succ]
    refine q_val rfl (fun W hW => by go_simp; try rfl) ?_
    try simp only [Act.put, List.setIfInBounds_toArray, List.set_cons_zero, List.set_cons_succ]
    refine q_val rfl (fun W hW => by have f := ((BY.out).fr0 hW).cell 0 rfl; go_simp; try rfl) ?_
    try simp only [Act.put, List.setIfInBounds_toArray, List.set_cons_zero, List.set_cons_succ]
    refine q_val rfl (fun W hW => by go_simp; try rfl) ?_
    try simp only [Act.put, List.setIfInBounds_toArray, List.set_cons_zero, List.set_cons_succ]
    refine q_val rfl (fun W hW => by go_simp; try rfl) ?_
    try simp only [Act.put, List.setIfInBounds_toArray, List.set_cons_zero, List.set_cons_succ]
    refine q_move rfl _ rfl ?_
    try simp only [Act.put, List.setIfInBounds_toArray, List.set_cons_zero, List.set_cons_succ]
    refine q_load rfl 24 _ rfl w.heap.size rfl 24 #[.int .i64 b1, .slice A1 n1 c1] (fun W hW => (BX.out).fr0 hW) _ Try.underlying24 rfl (by kernel_rfl) ?_
    try simp only [Act.put, List.setIfInBounds_toArray, List.set_cons_zero, List.set_cons_succ]
    refine q_call rfl 23 #[.agg #[.int .i64 b1, .slice A1 n1 c1]] (fun _ => by go_simp; try rfl) (fun W hW => ((HC1.out W (Fr0.trans FX.out hW)).mono (fun e w' h => ⟨h.1, hW.trans h.2⟩))) ?_
    try simp only [Act.put, List.setIfInBounds_toArray, List.set_cons_zero, List.set_cons_succ]
    refine q_load rfl 24 _ rfl (w.heap.size + 1) rfl 24 #[.int .i64 b2, .slice A2 n2 c2] (fun W hW => (BY.out).fr0 hW) _ Try.underlying24 rfl (by kernel_rfl) ?_
    try simp only [Act.put, List.setIfInBounds_toArray, List.set_cons_zero, List.set_cons_succ]
    refine q_call rfl 23 #[.agg #[.int .i64 b2, .slice A2 n2 c2]] (fun _ => by go_simp; try rfl) (fun W hW => ((HC2.out W (Fr0.trans FX.out hW)).mono (fun e w' h => ⟨h.1, hW.trans h.2⟩))) ?_
    try simp only [Act.put, List.setIfInBounds_toArray, List.set_cons_zero, List.set_cons_succ]
    refine q_val rfl (fun W hW => by go_simp; try rfl) ?_
    try simp only [Act.put, List.setIfInBounds_toArray, List.set_cons_zero, List.set_cons_succ]
    refine q_val rfl (fun W hW => by go_simp; try rfl) ?_
    try simp only [Act.put, List.setIfInBounds_toArray, List.set_cons_zero, List.set_cons_succ]
    refine q_nil ?_
    intro w' hC
    go_wp2_with fail
    go_ret2
    exact ⟨none, 0, by rw [HV.out]; rfl, by rw [HV.out]; exact RdB.nil _, Fr0.trans FX.out hC⟩
  have d2 : decide (k2 < k1) = false := by simpa using h2
  have HV := Lib.hid (show P = (formsD L, 0) by rw [HP.out, if_pos ⟨rfl, rfl, h1, h2⟩])
  clear HP h1 h2
  go_enter Try.func18, Try.ntmps18
  go_upto_region 1 with (fail)
  rw [← hwa]
  refine wp_region_class (fun W => Fr0 wa W) (by kernel_rfl) (by kernel_rfl) ((Fr0.refl _).drew) ?_
  try simp only [Act.put, List.setIfInBounds_toArray, List.set_cons_zero, List.set_cons_succ]
  refine q_load rfl 24 _ rfl w.heap.size rfl 24 #[.int .i64 b1, .slice A1 n1 c1] (fun W hW => (BX.out).fr0 hW) _ Try.underlying24 rfl (by kernel_rfl) ?_
  try simp only [Act.put, List.setIfInBounds_toArray, List.set_cons_zero, List.set_cons_succ]
  refine q_call rfl 22 #[.agg #[.int .i64 b1, .slice A1 n1 c1]] (fun _ => by go_simp; try rfl) (fun W hW => ((HM1.out W (Fr0.trans FX.out hW)).mono (fun e w' h => ⟨h.1, hW.trans h.2⟩))) ?_
  try simp only [Act.put, List.setIfInBounds_toArray, List.set_cons_zero, List.set_cons_succ]
  refine q_val rfl (fun W hW => by go_simp; try rfl) ?_
  try simp only [Act.put, List.setIfInBounds_toArray, List.set_cons_zero, List.set_cons_succ]
  refine q_move rfl _ rfl ?_
  try simp only [Act.put, List.setIfInBounds_toArray, List.set_cons_zero, List.set_cons_succ]
  refine q_load rfl 24 _ rfl (w.heap.size + 1) rfl 24 #[.int .i64 b2, .slice A2 n2 c2] (fun W hW => (BY.out).fr0 hW) _ Try.underlying24 rfl (by kernel_rfl) ?_
  try simp only [Act.put, List.setIfInBounds_toArray, List.set_cons_zero, List.set_cons_succ]
  refine q_call rfl 22 #[.agg #[.int .i64 b2, .slice A2 n2 c2]] (fun _ => by go_simp; try rfl) (fun W hW => ((HM2.out W (Fr0.trans FX.out hW)).mono (fun e w' h => ⟨h.1, hW.trans h.2⟩))) ?_
  try simp only [Act.put, List.setIfInBounds_toArray, List.set_cons_zero, List.set_cons_succ]
  refine q_val rfl (fun W hW => by go_simp; try rfl) ?_
  try simp only [Act.put, List.setIfInBounds_toArray, List.set_cons_zero, List.set_cons_succ]
  refine q_val rfl (fun W hW => by go_simp; try rfl) ?_
  try simp only [Act.put, List.setIfInBounds_toArray, List.set_cons_zero, List.set_cons_succ]
  refine q_move rfl _ rfl ?_
  try simp only [Act.put, List.setIfInBounds_toArray, List.set_cons_zero, List.set_cons_succ]
  refine q_load rfl 24 _ rfl w.heap.size rfl 24 #[.int .i64 b1, .slice A1 n1 c1] (fun W hW => (BX.out).fr0 hW) _ Try.underlying24 rfl (by kernel_rfl) ?_
  try simp only [Act.put, List.setIfInBounds_toArray, List.set_cons_zero, List.set_cons_succ]
  refine q_call rfl 23 #[.agg #[.int .i64 b1, .slice A1 n1 c1]] (fun _ => by go_simp; try rfl) (fun W hW => ((HC1.out W (Fr0.trans FX.out hW)).mono (fun e w' h => ⟨h.1, hW.trans h.2⟩))) ?_
  try simp only [Act.put, List.setIfInBounds_toArray, List.set_cons_zero, List.set_cons_succ]
  refine q_val rfl (fun W hW => by go_simp; try rfl) ?_
  try simp only [Act.put, List.setIfInBounds_toArray, List.set_cons_zero, List.set_cons_succ]
  refine q_val rfl (fun W hW => by have f := ((BY.out).fr0 hW).cell 0 rfl; go_simp; try rfl) ?_
  try simp only [Act.put, List.setIfInBounds_toArray, List.set_cons_zero, List.set_cons_succ]
  refine q_val rfl (fun W hW => by go_simp; try rfl) ?_
  try simp only [Act.put, List.setIfInBounds_toArray, List.set_cons_zero, List.set_cons_succ]
  refine q_val rfl (fun W hW => by go_simp; try rfl) ?_
  try simp only [Act.put, List.setIfInBounds_toArray, List.set_cons_zero, List.set_cons_succ]
  refine q_move rfl _ rfl ?_
  try simp only [Act.put, List.setIfInBounds_toArray, List.set_cons_zero, List.set_cons_succ]
  refine q_load rfl 24 _ rfl w.heap.size rfl 24 #[.int .i64 b1, .slice A1 n1 c1] (fun W hW => (BX.out).fr0 hW) _ Try.underlying24 rfl (by kernel_rfl) ?_
  try simp only [Act.put, List.setIfInBounds_toArray, List.set_cons_zero, List.set_cons_succ]
  refine q_call rfl 23 #[.agg #[.int .i64 b1, .slice A1 n1 c1]] (fun _ => by go_simp; try rfl) (fun W hW => ((HC1.out W (Fr0.trans FX.out hW)).mono (fun e w' h => ⟨h.1, hW.trans h.2⟩))) ?_
  try simp only [Act.put, List.setIfInBounds_toArray, List.set_cons_zero, List.set_cons_succ]
  refine q_load rfl 24 _ rfl (w.heap.size + 1) rfl 24 #[.int .i64 b2, .slice A2 n2 c2] (fun W hW => (BY.out).fr0 hW) _ Try.underlying24 rfl (by kernel_rfl) ?_
  try simp only [Act.put, List.setIfInBounds_toArray, List.set_cons_zero, List.set_cons_succ]
  refine q_call rfl 23 #[.agg #[.int .i64 b2, .slice A2 n2 c2]] (fun _ => by go_simp; try rfl) (fun W hW => ((HC2.out W (Fr0.trans FX.out hW)).mono (fun e w' h => ⟨h.1, hW.trans h.2⟩))) ?_
  try simp only [Act.put, List.setIfInBounds_toArray, List.set_cons_zero, List.set_cons_succ]
  refine q_val rfl (fun W hW => by go_simp; try rfl) ?_
  try simp only [Act.put, List.setIfInBounds_toArray, List.set_cons_zero, List.set_cons_succ]
  refine q_val rfl (fun W hW => by go_simp; try rfl) ?_
  try simp only [Act.put, List.setIfInBounds_toArray, List.set_cons_zero, List.set_cons_succ]
  refine q_nil ?_
  intro w' hC
  have FW := Lib.hid (Fr0.drew (Fr0.trans FX.out hC))
  have XW := Lib.hid (Blk.drew ((BX.out).fr0 hC))
  have YW := Lib.hid (Blk.drew ((BY.out).fr0 hC))
  have HSM2 := Lib.hid (HSM.out rfl)
  clear hC HSM BX BY HM1 HM2 HC2 hwa
  go_upto_region 4 with (fail)
  refine wp_region_held_drew (S := (fun W => Fr0 w'.drew W)) (by kernel_rfl) (Fr0.refl _) (fun hHeld => ?_)
  generalize w'.drew = wq at *
  have _hI : True := trivial
  clear _hI
  refine takeH (i := 0) rfl (by kernel_rfl) (by kernel_rfl) (by kernel_rfl) (fun _ _ _ h => h) (yields_load_blk rfl 24 _ rfl (w.heap.size + 1) rfl 24 #[.int .i64 b2, .slice A2 n2 c2] (fun W hW => (YW.out).fr0 hW) _ Try.underlying24 rfl (by kernel_rfl)) (Fr0.refl wq) ?_
  try simp only [Act.put, List.setIfInBounds_toArray, List.set_cons_zero, List.set_cons_succ]
  have _hI : True := trivial
  clear _hI
  refine takeH (i := 1) rfl (by kernel_rfl) (by kernel_rfl) (by kernel_rfl) (fun _ _ _ h => h) (yields_load_blk rfl 24 _ rfl w.heap.size rfl 24 #[.int .i64 b1, .slice A1 n1 c1] (fun W hW => (XW.out).fr0 hW) _ Try.underlying24 rfl (by kernel_rfl)) (Fr0.refl wq) ?_
  try simp only [Act.put, List.setIfInBounds_toArray, List.set_cons_zero, List.set_cons_succ]
  have _hI : True := trivial
  clear _hI
  refine takeH (i := 5) rfl (by kernel_rfl) (by kernel_rfl) (by kernel_rfl) (fun _ _ _ h => h) (.inl ⟨rfl, fun W hW => (by go_simp; try rfl)⟩) (Fr0.refl wq) ?_
  try simp only [Act.put, List.setIfInBounds_toArray, List.set_cons_zero, List.set_cons_succ]
  have _hI : True := trivial
  clear _hI
  refine wpAnyH_ready (rs := [2]) (by kernel_rfl) (by simp) (consG rfl rfl (fun K hK => ?_) AllReadyH.nil)
  have _hI : True := trivial
  clear _hI
  go_simp
  refine (HC1.out _ FW.out).mono ?_
  rintro e Wn ⟨rfl, hf⟩
  have G1 := Lib.hid (Fr0.trans FW.out hf)
  have U1 := Lib.hid hf
  clear hf
  refine hK.out _ _ U1.out ?_
  clear hK
  try simp only [Act.put, List.setIfInBounds_toArray, List.set_cons_zero, List.set_cons_succ]
  have _hI : True := trivial
  clear _hI
  refine wpAnyH_ready (rs := [3]) (by kernel_rfl) (by simp) (consG rfl rfl (fun K hK => ?_) AllReadyH.nil)
  have _hI : True := trivial
  clear _hI
  go_simp
  refine (HS.out _ G1.out).mono ?_
  rintro e Wn2 ⟨B4, c4, rfl, hd, hf⟩
  have G2 := Lib.hid (Fr0.trans G1.out hf)
  have U2 := Lib.hid (Fr0.trans U1.out hf)
  have D4 := Lib.hid (hd.ds (fun v t h => h.rd))
  clear hd hf
  refine hK.out _ _ U2.out ?_
  clear hK
  try simp only [Act.put, List.setIfInBounds_toArray, List.set_cons_zero, List.set_cons_succ]
  have _hI : True := trivial
  clear _hI
  refine takeH (i := 4) rfl (by kernel_rfl) (by kernel_rfl) (by kernel_rfl) (fun _ _ _ h => h) (.inl ⟨rfl, fun W hW => (by go_simp; try rfl)⟩) U2.out ?_
  try simp only [Act.put, List.setIfInBounds_toArray, List.set_cons_zero, List.set_cons_succ]
  refine wpAnyH_done (by kernel_rfl) ?_ _
  have LM := Lib.hid ((HSM2.out).1)
  have LN := (HSM2.out).2
  obtain ⟨n, hn⟩ : ∃ n, n = L.length := ⟨_, rfl⟩
  rw [← hn] at LN D4
  try rw [← hn]
  have HN := Lib.hid hn
  have FB := Lib.hid (fun k => show (formsD (L.take k)).length ≤ 4000 from by
    have h1 := formsD_len (l := L.take k) (fun x hx => LM.out x (List.mem_of_mem_take hx))
    rw [List.length_take] at h1
    have h2 := HN.out
    omega)
  clear hn HSM2
  go_wp2_with fail
  go_loopw [6, 36] (fun v6 v36 wr => ∃ (k q : Nat) (B : Option Addr) (c' : Nat), k ≤ n ∧ v6 = .slice B q c' ∧ v36 = .int .i64 k ∧ Fr0 w wr ∧ Fr0 Wn2 wr ∧ Hid (q = (formsD (L.take k)).length ∧ wr.ownsRow Wn2.heap.size 5 1 (.slice B q c') q (byts (formsD (L.take k))))) (fun _ v36 _ => n - (intOf v36).toNat)
  case atStart => exact ⟨0, 0, none, 0, Nat.zero_le _, rfl, rfl, G2.out, Fr0.refl _, Lib.hid ⟨by simp [formsD], by rw [List.take_zero]; exact World.ownsRow_nil _ _ _ _⟩⟩
  case round =>
    obtain ⟨k, q, B, c', hk, rfl, rfl, hfr, hfn, hO⟩ := hrel
    by_cases hlt : k < n
    · have i1 : (k : Int) < (n : Int) := by omega
      have p1 : k < L.length := by have := HN.out; omega
      have hx := ((D4.out).fr0 hfn).cell (i := k) p1
      have HTK := Lib.hid (formsD_take p1)
      have HMX := Lib.hid (LM.out _ (List.getElem_mem p1))
      obtain ⟨x, hx1⟩ : ∃ x, x = L[k] := ⟨_, rfl⟩
      rw [← hx1] at hx HTK HMX
      obtain ⟨g, off, Bx, ex, rfl, hkc, hgl, d0, d1, d2, d3, hr⟩ := hx
      have F0 := Lib.hid ((Fr0.refl wr).alloc (.cells #[.int .i64 x.kind, .slice Bx x.t.length ex, .int .i64 x.rows, .int .i64 x.cols] 28))
      have HC := Lib.hid (form_any (hr.fr0 F0.out) HMX.out)
      have HB := Lib.hid (FB.out (k + 1))
      have HFD := Lib.hid (formD_len HMX.out)
      have F := Lib.hid hfr
      have FN := Lib.hid hfn
      clear hr hfr hfn p1 hx1
      go_wp2_with (first
        | (go_at_call 28; refine (HC.out).mono ?_; rintro e w5 ⟨v5, rfl, hr, hf⟩; obtain ⟨A5, c5, rfl, -⟩ := hr.form; have R5 := Lib.hid hr; have F5 := Lib.hid (Fr0.trans (F0.out) hf); clear hr hf)
        | (at_builtin; refine app_bytes (w0 := Wn2) (L1 := formsD (L.take k)) (L2 := formD x) rfl _ _ rfl (Fr0.trans FN.out F5.out) (own_fr (hO.out).2 F5.out (fun _ _ h => h)) rfl R5.out rfl (by have h1 := (hO.out).1; have h2 := FB.out k; have h3 := HFD.out; omega) ?_; intro A6 c6 w6 hown hf; have O6 := Lib.hid hown; have F6 := Lib.hid hf; clear hown hf))
      go_roundw
      case measure => simp [intOf]; omega
      case rel => exact ⟨k + 1, _, _, _, by omega, rfl, by go_num, Fr0.trans G2.out F6.out, F6.out, Lib.hid ⟨by rw [HTK.out, List.length_append, ← (hO.out).1], by rw [HTK.out]; exact O6.out⟩⟩
    · obtain rfl : k = n := by omega
      have F := Lib.hid hfr
      have O := Lib.hid (show q = P.1.length ∧ RdB wr (.slice B q c') P.1 from by
        have h := hO.out
        rw [HN.out, List.take_length] at h
        rw [HV.out]
        exact ⟨h.1, rdb_of (Rd.of_own h.2)⟩)
      have HQ := Lib.hid (O.out).1
      clear hfr hfn hO
      go_wp2_with fail
      go_ret2
      exact ⟨B, c', by rw [← HQ.out, HV.out]; rfl, by rw [← HQ.out]; exact (O.out).2, F.out⟩
end Go.Proofs.Ytcbllkkbpjobpaa
