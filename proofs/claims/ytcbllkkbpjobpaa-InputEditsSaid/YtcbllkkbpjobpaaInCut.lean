/- A stream without deeds up to a number. Conditions stand in the statements. -/
import Derived.Test.YtcbllkkbpjobpaaInSince
import Derived.Laws.ResultCell
set_option linter.unusedVariables false
namespace Go.Proofs.Ytcbllkkbpjobpaa
open Go.RowKit

theorem sret2 {fn : Func} {p u : Tmp} (h : fn.results = #[.cell p 24, .tmp u]) {tmps : Array Value} {W : World} {g : Nat} {b v r : Value} (hg : Blk W g #[b, v] 24) (h2 : tmps.getD p undef = .pointer (some ⟨g, 0, none⟩)) (h3 : tmps.getD u undef = r) :
    (results fn tmps).run Try.prog W = .ok (.tuple #[.agg #[b, v], r]) W := by
  rw [results_cell_tmp h, h2, h3]
  have hl := run_loadVar_row (P := Try.prog) W g 24 24 #[b, v] (0, 0) _ hg Try.underlying24 rfl (by kernel_rfl)
  simp [asAddr, Result.andThen, hl]
theorem fr_set2 {w w1 : World} (h : Fr0 w w1) {b : Nat} (hb : w.heap.size ≤ b) (x0 x1 : Value) : Fr0 w ((w1.setCell ⟨b, 0, none⟩ x0).setCell ⟨b, 1, none⟩ x1) :=
  Fr.setCell (p := ⟨b, 1, none⟩) (Fr.setCell (p := ⟨b, 0, none⟩) h (.inr hb) x0) (.inr hb) x1
theorem blk_set2 {w1 : World} {b : Nat} {a0 a1 : Value} {t : TypeId} (h : Blk w1 b #[a0, a1] t) (x0 x1 : Value) : Blk ((w1.setCell ⟨b, 0, none⟩ x0).setCell ⟨b, 1, none⟩ x1) b #[x0, x1] t := (h.set 0 x0).set 1 x1
theorem fr1_set2 (w1 : World) (b : Nat) (x0 x1 : Value) : Fr1 b w1 ((w1.setCell ⟨b, 0, none⟩ x0).setCell ⟨b, 1, none⟩ x1) := ((Fr1.refl b w1).set 0 x0).set 1 x1
theorem DsG.frS {b2 base : Nat} {w w' : World} {v : Value} {l : List Dd} {p : Nat} {vs : Array Value} {t : TypeId} (h : DsG (SlO b2) base w v l) (hf : Fr1 p w w') (hb : Blk w p vs t) (ht : 28 ≠ t) (ht2 : 5 ≠ t) : DsG (SlO b2) base w' v l :=
  h.fr hf (h.ne hb ht) (fun v t hs => hs.fr1 hf hb ht2)
/-- A cut: base, deeds, error. -/
def cutP (b : Int) (l : List Dd) (m : Int) : Int × List Dd × Int := if mayS b l = true ∧ b ≤ m ∧ m ≤ b + l.length then (m, sinceL b l m, 0) else (0, [], 2)
set_option maxHeartbeats 4000000 in
theorem cut_any {b m : Int} {A : Option Addr} {c : Nat} {l : List Dd} {w : World} (h : Ds w (.slice A l.length c) l) (hm : -9223372036854775808 ≤ m ∧ m ≤ 9223372036854775807) :
    Calls Try.prog 12 #[.agg #[.int .i64 b, .slice A l.length c], .int .i64 m] w fun e w' => ∃ B c', e = .returned (.tuple #[.agg #[.int .i64 (cutP b l m).1, .slice B (cutP b l m).2.1.length c'], .int .i64 (cutP b l m).2.2]) ∧
      DsG (SlO w.heap.size) w.heap.size w' (.slice B (cutP b l m).2.1.length c') (cutP b l m).2.1 ∧ Fr0 w w' := by
  have HF := Lib.hid (((Fr0.refl w).alloc (.cells #[.int .i64 b, .slice A l.length c] 24)).alloc (.cells #[.int .i64 0, .slice none 0 0] 24))
  have HM := Lib.hid (mayS_any (b := b) (h.fr0 HF.out))
  have HC := Lib.hid (fun W (hf : Fr0 w W) => count_any (b := b) (h.fr0 hf))
  have HS := Lib.hid (fun W (hf : Fr0 w W) => since_any (b := b) (m := m) (h.fr0 hf) hm)
  have BX := Lib.hid ((Blk.new w #[.int .i64 b, .slice A l.length c] 24).alloc (.cells #[.int .i64 0, .slice none 0 0] 24))
  have BY := Lib.hid (show Blk ((w.alloc (.cells #[.int .i64 b, .slice A l.length c] 24)).alloc (.cells #[.int .i64 0, .slice none 0 0] 24)) (w.heap.size + 1) #[.int .i64 0, .slice none 0 0] 24 from by have := Blk.new (w.alloc (.cells #[.int .i64 b, .slice A l.length c] 24)) #[.int .i64 0, .slice none 0 0] 24; simpa using this)
  have HCP := Lib.hid (show cutP b l m = if mayS b l = true ∧ b ≤ m ∧ m ≤ b + l.length then (m, sinceL b l m, 0) else (0, [], 2) from rfl)
  have HCN := Lib.hid (show cntS b l = if mayS b l then b + l.length else 0 from rfl)
  have BN := Lib.hid (fun hs => mayS_bnd (b := b) (l := l) hs)
  obtain ⟨n, hn⟩ : ∃ n, n = l.length := ⟨_, rfl⟩
  obtain ⟨s, hs⟩ : ∃ s, s = mayS b l := ⟨_, rfl⟩
  obtain ⟨cn, hcn⟩ : ∃ s, s = cntS b l := ⟨_, rfl⟩
  obtain ⟨L, hL⟩ : ∃ s, s = sinceL b l m := ⟨_, rfl⟩
  obtain ⟨CP, hCP⟩ : ∃ s, s = cutP b l m := ⟨_, rfl⟩
  rw [← hn] at HF HM HC HS BX BY HCP HCN BN ⊢
  rw [← hs] at HM HCP HCN BN
  rw [← hcn] at HC HCN
  rw [← hL] at HS HCP
  rw [← hCP] at HCP ⊢
  clear hs hcn hL hCP h
  have hm1 := hm.1
  have hm2 := hm.2
  clear hm hn
  cases s
  · have HV := Lib.hid (show CP = (0, [], 2) by rw [HCP.out, if_neg (by simp)])
    clear HCP HCN
    go_enter Try.func12, Try.ntmps12
    go_upto_region 2 with (first
      | (go_at_call 22; refine (HM.out).mono ?_; rintro e w1 ⟨rfl, hf⟩; have F1 := Lib.hid (Fr0.trans HF.out hf); have Y1 := Lib.hid ((BY.out).fr0 hf); clear hf))
    have f0 := (Y1.out).free 0
    have f1 := (Y1.out).free 1
    have g0 := (Y1.out).cell 0 rfl
    have g1 := (Y1.out).cell 1 rfl
    go_wp21
    rw [HV.out]
    refine bodyPost_ret (v := .tuple #[.agg #[.int .i64 0, .slice none 0 0], .int .i64 2]) (sret2 rfl (blk_set2 Y1.out _ _) rfl rfl) rfl ⟨none, 0, rfl, DsG.nil _ _ _, fr_set2 F1.out (by omega) _ _⟩
  obtain ⟨i1, i2, i3, -⟩ := (BN.out) rfl
  have HCN2 := Lib.hid (show cn = b + n from HCN.out)
  by_cases h1 : m < b
  · have b1 : decide (m < b) = true := by simpa using h1
    have HV := Lib.hid (show CP = (0, [], 2) by rw [HCP.out, if_neg (by omega)])
    clear HCP HCN h1
    go_enter Try.func12, Try.ntmps12
    go_upto_region 2 with (first
      | (go_at_call 22; refine (HM.out).mono ?_; rintro e w1 ⟨rfl, hf⟩; have F1 := Lib.hid (Fr0.trans HF.out hf); have c0 := ((BX.out).fr0 hf).cell 0 rfl; have Y1 := Lib.hid ((BY.out).fr0 hf); clear hf))
    have f0 := (Y1.out).free 0
    have f1 := (Y1.out).free 1
    have g0 := (Y1.out).cell 0 rfl
    have g1 := (Y1.out).cell 1 rfl
    go_wp21
    rw [HV.out]
    refine bodyPost_ret (v := .tuple #[.agg #[.int .i64 0, .slice none 0 0], .int .i64 2]) (sret2 rfl (blk_set2 Y1.out _ _) rfl rfl) rfl ⟨none, 0, rfl, DsG.nil _ _ _, fr_set2 F1.out (by omega) _ _⟩
  have b1 : decide (m < b) = false := by simpa using h1
  by_cases h2 : cn < m
  · have b2 : decide (cn < m) = true := by simpa using h2
    have HV := Lib.hid (show CP = (0, [], 2) by rw [HCP.out, if_neg (by have := HCN2.out; omega)])
    clear HCP HCN h1 h2
    go_enter Try.func12, Try.ntmps12
    go_upto_region 2 with (first
      | (go_at_call 22; refine (HM.out).mono ?_; rintro e w1 ⟨rfl, hf⟩; have F1 := Lib.hid (Fr0.trans HF.out hf); have X1 := Lib.hid ((BX.out).fr0 hf); have c0 := (X1.out).cell 0 rfl; have c1 := (X1.out).cell 1 rfl; have Y1 := Lib.hid ((BY.out).fr0 hf); clear hf)
      | (go_at_call 23; refine (HC.out _ F1.out).mono ?_; rintro e w2 ⟨rfl, hf⟩; have F2 := Lib.hid (Fr0.trans F1.out hf); have Y2 := Lib.hid ((Y1.out).fr0 hf); clear hf))
    have f0 := (Y2.out).free 0
    have f1 := (Y2.out).free 1
    have g0 := (Y2.out).cell 0 rfl
    have g1 := (Y2.out).cell 1 rfl
    go_wp21
    rw [HV.out]
    refine bodyPost_ret (v := .tuple #[.agg #[.int .i64 0, .slice none 0 0], .int .i64 2]) (sret2 rfl (blk_set2 Y2.out _ _) rfl rfl) rfl ⟨none, 0, rfl, DsG.nil _ _ _, fr_set2 F2.out (by omega) _ _⟩
  have b2 : decide (cn < m) = false := by simpa using h2
  have HV := Lib.hid (show CP = (m, L, 0) by rw [HCP.out, if_pos (by have := HCN2.out; exact ⟨rfl, by omega, by omega⟩)])
  clear HCP HCN h1 h2
  go_enter Try.func12, Try.ntmps12
  go_upto_region 3 with (first
    | (go_at_call 22; refine (HM.out).mono ?_; rintro e w1 ⟨rfl, hf⟩; have F1 := Lib.hid (Fr0.trans HF.out hf); have X1 := Lib.hid ((BX.out).fr0 hf); have c0 := (X1.out).cell 0 rfl; have c1 := (X1.out).cell 1 rfl; have Y1 := Lib.hid ((BY.out).fr0 hf); clear hf)
    | (go_at_call 23; refine (HC.out _ F1.out).mono ?_; rintro e w2 ⟨rfl, hf⟩; have F2 := Lib.hid (Fr0.trans F1.out hf); have Y2 := Lib.hid ((Y1.out).fr0 hf); have d0 := ((X1.out).fr0 hf).cell 0 rfl; have d1 := ((X1.out).fr0 hf).cell 1 rfl; clear hf))
  have HS2 := Lib.hid (HS.out _ F2.out)
  go_wp2_with (go_at_call 13; refine (HS2.out).mono ?_; rintro e w3 ⟨B, c', rfl, hd, hf⟩; have F3 := Lib.hid (Fr0.trans F2.out hf); have Y3 := Lib.hid ((Y2.out).fr0 hf); have f0 := (Y3.out).free 0; have f1 := (Y3.out).free 1; have g0 := (Y3.out).cell 0 rfl; have g1 := (Y3.out).cell 1 rfl; have D3 := Lib.hid (hd.mono (b2 := w.heap.size) (T2 := SlO w.heap.size) (F2.out).size (fun v t h => h.low (F2.out).size)); clear hd hf; go_wp21)
  rw [HV.out]
  refine bodyPost_ret (v := .tuple #[.agg #[.int .i64 m, .slice B L.length c'], .int .i64 0]) (sret2 rfl (blk_set2 Y3.out _ _) rfl rfl) rfl ⟨B, c', rfl, (D3.out).frS (fr1_set2 _ _ _ _) Y3.out (by decide) (by decide), fr_set2 F3.out (by omega) _ _⟩
end Go.Proofs.Ytcbllkkbpjobpaa
