/- The reference's Since and Copy. Conditions stand in the statements. -/
import Derived.Test.YtcbllkkbpjobpaaInCut
set_option linter.unusedVariables false
set_option linter.unusedSimpArgs false
namespace Go.Proofs.Ytcbllkkbpjobpaa
open Go.RowKit

theorem take_drop_more {α : Type} {l : List α} {i K : Nat} (hi : i < l.length) (hK : K ≤ i) : (l.take (i + 1)).drop K = (l.take i).drop K ++ [l[i]] := by
  rw [List.take_succ_eq_append_getElem hi, List.drop_append_of_le_length (by rw [List.length_take]; omega)]
theorem take_drop_none {α : Type} {l : List α} {i K : Nat} (hK : i ≤ K) : (l.take i).drop K = [] := by
  rw [List.drop_eq_nil_iff, List.length_take]; omega
set_option maxHeartbeats 4000000 in
theorem rsince_any {b m : Int} {A : Option Addr} {c : Nat} {l : List Dd} {w : World} (h : Ds w (.slice A l.length c) l) (hs : mayS b l = true) :
    Calls Try.prog 17 #[.agg #[.int .i64 b, .slice A l.length c], .int .i64 m] w fun e w' => ∃ B c', e = .returned (.slice B (sinceL b l m).length c') ∧ DsG (fun _ v t => RdB w v t) w.heap.size w' (.slice B (sinceL b l m).length c') (sinceL b l m) ∧ Fr0 w w' := by
  obtain ⟨j1, j2, j3, -⟩ := mayS_bnd hs
  have FX := Lib.hid ((Fr0.refl w).alloc (.cells #[.int .i64 b, .slice A l.length c] 24))
  have BX := Lib.hid (Blk.new w #[.int .i64 b, .slice A l.length c] 24)
  have H := Lib.hid h
  have HS := Lib.hid (show sinceL b l m = l.drop (sinceK b l.length m) by unfold sinceL; rw [if_pos hs])
  obtain ⟨K, hK⟩ : ∃ n, n = sinceK b l.length m := ⟨_, rfl⟩
  have HKV := Lib.hid (show K = min (m - b).toNat l.length from hK)
  obtain ⟨L, hL⟩ : ∃ n, n = sinceL b l m := ⟨_, rfl⟩
  obtain ⟨n, hn⟩ : ∃ n, n = l.length := ⟨_, rfl⟩
  rw [← hK, ← hL] at HS
  rw [← hL]
  rw [← hn] at FX BX H HKV j2 j3 ⊢
  have HN := Lib.hid hn
  clear hn hL hK h hs
  go_enter Try.func17, Try.ntmps17
  go_wp2_with fail
  go_loopw [5, 6] (fun v5 v6 wr => ∃ (k q : Nat) (B : Option Addr) (c' : Nat), k ≤ n ∧ v5 = .slice B q c' ∧ v6 = .int .i64 k ∧ Fr0 (w.alloc (.cells #[.int .i64 b, .slice A n c] 24)) wr ∧ Hid (q = ((l.take k).drop K).length ∧ DsG (fun _ v t => RdB w v t) (w.heap.size + 1) wr (.slice B q c') ((l.take k).drop K))) (fun _ v6 _ => n - (intOf v6).toNat)
  case atStart => exact ⟨0, 0, none, 0, Nat.zero_le _, rfl, rfl, Fr0.refl _, Lib.hid ⟨by simp, by rw [List.take_zero, List.drop_nil]; exact DsG.nil _ _ _⟩⟩
  case round =>
    obtain ⟨k, q, B, c', hk, rfl, rfl, hfr, hD⟩ := hrel
    have x0 := ((BX.out).fr0 hfr).cell 0 rfl
    have x1 := ((BX.out).fr0 hfr).cell 1 rfl
    by_cases hlt : k < n
    · have i1 : (k : Int) < (n : Int) := by omega
      have w1 : IntKind.i64.wrap (b + (k : Int)) = b + (k : Int) := by rw [IntKind.wrap_i64]; omega
      have p1 : k < l.length := by have := HN.out; omega
      by_cases hge : m ≤ b + (k : Int)
      · have b1 : decide (m ≤ b + (k : Int)) = true := by simpa using hge
        obtain ⟨g, off, Bx, ex, rfl, hkc, hgl, d0, d1, d2, d3, hrx⟩ := (H.out).cell (i := k) p1
        have hfw := Fr0.trans FX.out hfr
        have c0 := hfw.cell d0
        have c1 := hfw.cell d1
        have c2 := hfw.cell d2
        have c3 := hfw.cell d3
        have HT := Lib.hid (take_drop_more (K := K) p1 (by have := HKV.out; omega))
        have HRX := Lib.hid hrx
        obtain ⟨x, hx1⟩ : ∃ x, x = l[k] := ⟨_, rfl⟩
        rw [← hx1] at c0 c1 c2 c3 HT HRX
        have F := Lib.hid hfr
        clear hrx p1 hx1 hge hfr hfw d0 d1 d2 d3
        go_wp2_with (first
          | (at_builtin; have hW := Fr0.trans FX.out F.out; refine list_append_ds (n := q) (m := 1) (base := w.heap.size + 1) (T := fun _ v t => RdB w v t) (l2 := [(.slice Bx x.t.length ex, x)]) rfl _ _ rfl (by have := (F.out).size; simp at this ⊢; omega) ((hD.out).2.fr0 ((Fr0.refl wr).alloc _) (fun v t h => h)) rfl (hD.out).1.symm rfl (rd_dd (Blk.new wr (ddA x Bx ex) 28)) rfl (by intro y hy; rw [List.mem_singleton] at hy; subst hy; exact (HRX.out).fr0 (hW.alloc _)) (by have h1 := (hD.out).1; rw [List.length_drop, List.length_take] at h1; omega) (fun w' hf v t h => h) (fun w' hf y hy => by rw [List.mem_singleton] at hy; subst hy; exact HRX.out) ?_; intro A2 c2 w4 hD2 hf2; have D2 := Lib.hid hD2; have F2 := Lib.hid (show Fr0 (w.alloc (.cells #[.int .i64 b, .slice (some ⟨g, off, none⟩) n c] 24)) w4 from Fr.then ((F.out).alloc _) hf2 (fun i hi hl => by have := ((hD.out).2.lo i hi).1; simp at hl; omega)); clear hD2 hf2 hW))
        go_roundw
        case measure => simp [intOf]; omega
        case rel => exact ⟨k + 1, _, _, _, by omega, rfl, by go_num, F2.out, Lib.hid ⟨by rw [HT.out, List.length_append, ← (hD.out).1]; rfl, by rw [HT.out]; exact D2.out⟩⟩
      · have b1 : decide (m ≤ b + (k : Int)) = false := by simpa using hge
        have F := Lib.hid hfr
        have HE1 := Lib.hid (take_drop_none (l := l) (i := k) (K := K) (by have := HKV.out; omega))
        have HE2 := Lib.hid (take_drop_none (l := l) (i := k + 1) (K := K) (by have := HKV.out; omega))
        clear hfr hge p1
        go_wp2_with fail
        go_roundw
        case measure => simp [intOf]; omega
        case rel => exact ⟨k + 1, q, B, c', by omega, rfl, by go_num, F.out, Lib.hid (by have := hD.out; rw [HE1.out] at this; rw [HE2.out]; exact this)⟩
    · obtain rfl : k = n := by omega
      have F := Lib.hid hfr
      have D := Lib.hid (show q = L.length ∧ DsG (fun _ v t => RdB w v t) w.heap.size wr (.slice B q c') L from by have := hD.out; rw [HN.out, List.take_length] at this; rw [HS.out]; exact ⟨this.1, this.2.mono (by omega) (fun v t h => h)⟩)
      have HQ := Lib.hid (D.out).1
      clear hfr hD
      go_wp2_with fail
      go_ret
      exact ⟨B, c', by rw [← HQ.out]; rfl, by rw [← HQ.out]; exact (D.out).2, Fr0.trans FX.out F.out⟩
theorem SlO.new1 {base : Nat} {w : World} {o : Obj} (hb : base ≤ w.heap.size + 1) : SlO base ((w.alloc o).alloc (.cells #[] 5)) (.slice (some ⟨w.heap.size + 1, 0, none⟩) 0 0) [] := by
  have := SlO.new0 (w := w.alloc o) (base := base) (by simpa using hb)
  simpa using this
theorem ds_put2 {b0 : Nat} {wr w1 : World} {g5 : Nat} {x : Dd} {b : Value} {A1 : Option Addr} {e1 : Nat} (hg : wr.heap.size ≤ g5)
    (h1 : Fr0 wr w1) (hb : Blk w1 g5 #[.int .i64 x.kind, b, .int .i64 x.rows, .int .i64 x.cols] 28) (ht : SlO b0 w1 (.slice A1 x.t.length e1) x.t) :
    Fr0 wr (w1.setCell ⟨g5, 1, none⟩ (.slice A1 x.t.length e1)) ∧ Blk (w1.setCell ⟨g5, 1, none⟩ (.slice A1 x.t.length e1)) g5 (ddA x A1 e1) 28 ∧ SlO b0 (w1.setCell ⟨g5, 1, none⟩ (.slice A1 x.t.length e1)) (.slice A1 x.t.length e1) x.t := by
  have f1 : Fr1 g5 w1 (w1.setCell ⟨g5, 1, none⟩ (.slice A1 x.t.length e1)) := (Fr1.refl g5 w1).set 1 _
  exact ⟨Fr0.new h1 f1 hg, hb.set 1 _, ht.fr1 f1 hb (by decide)⟩
theorem sret1 {fn : Func} {p : Tmp} (h : fn.results = #[.cell p 24]) {tmps : Array Value} {W : World} {g : Nat} {b v : Value} (hg : Blk W g #[b, v] 24) (h2 : tmps.getD p undef = .pointer (some ⟨g, 0, none⟩)) :
    (results fn tmps).run Try.prog W = .ok (.agg #[b, v]) W :=
  results_cell_row h tmps W g 24 #[b, v] (0, 0) _ h2 hg Try.underlying24 rfl (by kernel_rfl)
set_option maxHeartbeats 8000000 in
set_option maxRecDepth 100000 in
theorem rcopy_any {b : Int} {A : Option Addr} {c : Nat} {l : List Dd} {w : World} (h : Ds w (.slice A l.length c) l) (hn : l.length ≤ 100000) (ht : ∀ x ∈ l, x.t.length ≤ 1000000) :
    Calls Try.prog 10 #[.agg #[.int .i64 b, .slice A l.length c]] w fun e w' => ∃ B c', e = .returned (.agg #[.int .i64 b, .slice B l.length c']) ∧ DsG (SlO w.heap.size) w.heap.size w' (.slice B l.length c') l ∧ Fr0 w w' := by
  have H := Lib.hid h
  have HT := Lib.hid ht
  obtain ⟨wa, hwa⟩ : ∃ W, W = ((w.alloc (.cells #[.int .i64 b, .slice A l.length c] 24)).alloc (.cells #[.int .i64 0, .slice none 0 0] 24)).alloc (.cells #[.int .i64 b, .slice none 0 0] 24) := ⟨_, rfl⟩
  have FX := Lib.hid (show Fr0 w wa by rw [hwa]; exact (((Fr0.refl w).alloc _).alloc _).alloc _)
  have BX := Lib.hid (show Blk wa w.heap.size #[.int .i64 b, .slice A l.length c] 24 by rw [hwa]; exact ((Blk.new w _ 24).alloc _).alloc _)
  have BY := Lib.hid (show Blk wa (w.heap.size + 1) #[.int .i64 0, .slice none 0 0] 24 by rw [hwa]; have := (Blk.new (w.alloc (.cells #[.int .i64 b, .slice A l.length c] 24)) #[.int .i64 0, .slice none 0 0] 24).alloc (.cells #[.int .i64 b, .slice none 0 0] 24); simpa using this)
  have BZ := Lib.hid (show Blk wa (w.heap.size + 2) #[.int .i64 b, .slice none 0 0] 24 by rw [hwa]; have := Blk.new ((w.alloc (.cells #[.int .i64 b, .slice A l.length c] 24)).alloc (.cells #[.int .i64 0, .slice none 0 0] 24)) #[.int .i64 b, .slice none 0 0] 24; simpa using this)
  obtain ⟨n, hnl⟩ : ∃ n, n = l.length := ⟨_, rfl⟩
  have HL := Lib.hid hnl
  rw [← hnl] at H hn BX hwa ⊢
  have WS := Lib.hid (show wa.heap.size = w.heap.size + 3 by rw [hwa]; simp)
  clear h ht hnl
  go_enter Try.func10, Try.ntmps10
  go_upto_region 3 with (fail)
  rw [← hwa]
  clear hwa
  go_loopw [4] (fun v4 wr => ∃ (k : Nat) (B : Option Addr) (c' : Nat), k ≤ n ∧ v4 = .int .i64 k ∧ Fr0 w wr ∧ Blk wr w.heap.size #[.int .i64 b, .slice A n c] 24 ∧ Blk wr (w.heap.size + 1) #[.int .i64 0, .slice none 0 0] 24 ∧ Blk wr (w.heap.size + 2) #[.int .i64 b, .slice B k c'] 24 ∧ Hid (DsG (SlO w.heap.size) (w.heap.size + 3) wr (.slice B k c') (l.take k))) (fun v4 _ => n - (intOf v4).toNat)
  case atStart => exact ⟨0, none, 0, Nat.zero_le _, rfl, FX.out, BX.out, BY.out, BZ.out, Lib.hid (by rw [List.take_zero]; exact DsG.nil _ _ _)⟩
  case round =>
    obtain ⟨k, B, c', hk, rfl, hfr, hX, hY, hZ, hD⟩ := hrel
    have x1 := hX.cell 1 rfl
    have X := Lib.hid hX
    have Y := Lib.hid hY
    have Z := Lib.hid hZ
    clear hX hY hZ BX BY BZ
    by_cases hlt : k < n
    · have i1 : (k : Int) < (n : Int) := by omega
      have p1 : k < l.length := by have := HL.out; omega
      have hx := ((H.out).fr0 hfr).cell (i := k) p1
      have HTX := Lib.hid (HT.out _ (List.getElem_mem p1))
      have HTK := Lib.hid (List.take_succ_eq_append_getElem p1)
      obtain ⟨x, hx1⟩ : ∃ x, x = l[k] := ⟨_, rfl⟩
      rw [← hx1] at hx HTX HTK
      obtain ⟨g, off, B1, e1, rfl, hkc, hgl, d0, d1, d2, d3, hr⟩ := hx
      clear p1 hx1
      have HKL := Lib.hid (show (l.take k).length = k by rw [List.length_take]; have := HL.out; omega)
      obtain ⟨lk, hlk⟩ : ∃ m, m = l.take k := ⟨_, rfl⟩
      rw [← hlk] at HTK HKL hD
      have F0 := Lib.hid ((Fr0.refl wr).alloc (.cells #[.int .i64 x.kind, .slice B1 x.t.length e1, .int .i64 x.rows, .int .i64 x.cols] 28))
      have B0 := Lib.hid (Blk.new wr #[.int .i64 x.kind, .slice B1 x.t.length e1, .int .i64 x.rows, .int .i64 x.cols] 28)
      have HRD := Lib.hid (hr.fr0 F0.out)
      have F := Lib.hid hfr
      clear hr hfr hlk
      have ye1 := ((B0.out).alloc (.cells #[] 5)).cell 1 rfl
      go_wp2_with (first
        | (at_builtin; refine list_append_sl (base := wr.heap.size + 1) (d := []) (e := x.t) rfl _ _ rfl (SlO.new1 (Nat.le_refl _)) rfl (by simp) ((HRD.out).fr0 ((Fr0.refl _).alloc _)) rfl (by have := HTX.out; simp; omega) ?_; intro A6 c6 w4 hS hF hK; have S4 := Lib.hid (show SlO w.heap.size w4 (.slice A6 x.t.length c6) x.t from by have h2 : SlO (wr.heap.size + 1) w4 (.slice A6 x.t.length c6) x.t := hS; exact h2.low (by have := (F.out).size; omega)); have F4 := Lib.hid (show Fr0 wr w4 from Fr.then ((F0.out).alloc (.cells #[] 5)) hF (fun i hi hl => by injection hi with hi; subst hi; simp at hl; omega)); have B4 := Lib.hid (((B0.out).alloc (.cells #[] 5)).fr hF (fun hi => by injection hi with hi; simp at hi)); rw [show ([] : List UInt8).length + x.t.length = x.t.length from Nat.zero_add _]; have P := Lib.hid (ds_put2 (Nat.le_refl _) F4.out B4.out S4.out); have f0 := (B4.out).free 1; have e0 := (B4.out).cell 0 rfl; have e1 := (B4.out).cell 1 rfl; have e2 := (B4.out).cell 2 rfl; have e3 := (B4.out).cell 3 rfl; have PZ := Lib.hid ((Z.out).fr0 (P.out).1); have PX := Lib.hid ((X.out).fr0 (P.out).1); have PY := Lib.hid ((Y.out).fr0 (P.out).1); have r1 := (PZ.out).cell 1 rfl; clear hS hF hK)
        | (at_builtin; have _q := P; have hW := Fr0.trans F.out (P.out).1; refine list_append_ds (n := k) (m := 1) (base := w.heap.size + 3) (T := SlO w.heap.size) (l2 := [(_, x)]) rfl _ _ rfl (by have h1 := ((P.out).1).size; have h2 := (Z.out).lt; simp at h1 ⊢; omega) ((hD.out).fr0 ((P.out).1.alloc _) (fun v t h => h.fr0 ((P.out).1.alloc _))) rfl HKL.out rfl (rd_dd (Blk.newS _ _ _ (ddA x A6 c6) 28)) rfl (by intro y hy; rw [List.mem_singleton] at hy; subst hy; exact (((P.out).2.2).fr0 ((Fr0.refl _).alloc _)).rd) (by omega) (fun w' hf v t h => slo_keep ((hD.out).fr0 ((P.out).1.alloc _) (fun v t h => h.fr0 ((P.out).1.alloc _))) hf h) (fun w' hf y hy => by rw [List.mem_singleton] at hy; subst hy; exact slo_keep ((hD.out).fr0 ((P.out).1.alloc _) (fun v t h => h.fr0 ((P.out).1.alloc _))) hf (((P.out).2.2).fr0 ((Fr0.refl _).alloc _))) ?_; intro A2 c2 w6 hD2 hf2; have D2 := Lib.hid hD2; have F2 := Lib.hid (show Fr0 w w6 from Fr.then (hW.alloc _) hf2 (fun i hi hl => by have := ((hD.out).lo i hi).1; omega)); have PX2 := Lib.hid (((PX.out).alloc _).fr hf2 (fun hi => by have := ((hD.out).lo _ hi).1; omega)); have PY2 := Lib.hid (((PY.out).alloc _).fr hf2 (fun hi => by have := ((hD.out).lo _ hi).1; omega)); have PZ2 := Lib.hid (((PZ.out).alloc _).fr hf2 (fun hi => by have := ((hD.out).lo _ hi).1; omega)); have s1 := (PZ2.out).cell 1 rfl; have s2 := (PZ2.out).free 1; clear hD2 hf2 hW))
      go_roundw
      case measure => simp [intOf]; omega
      case rel =>
        have f6 := (Fr1.refl (w.heap.size + 2) w6).set 1 (.slice A2 (k + 1) c2)
        exact ⟨k + 1, A2, c2, by omega, by go_num, Fr0.new F2.out f6 (by omega), (PX2.out).fr1 f6 (by omega), (PY2.out).fr1 f6 (by omega), (PZ2.out).set 1 _, Lib.hid (by rw [HTK.out]; exact (D2.out).frS f6 PZ2.out (by decide) (by decide))⟩
    · obtain rfl : k = n := by omega
      have F := Lib.hid hfr
      clear hfr
      have D := Lib.hid (show DsG (SlO w.heap.size) w.heap.size wr (.slice B k c') l from by have := hD.out; rw [HL.out, List.take_length] at this; rw [HL.out]; exact this.mono (by omega) (fun v t h => h))
      have z0 := (Z.out).cell 0 rfl
      have z1 := (Z.out).cell 1 rfl
      have y0 := (Y.out).cell 0 rfl
      have y1 := (Y.out).cell 1 rfl
      have g0 := (Y.out).free 0
      have g1 := (Y.out).free 1
      clear hD
      go_wp21
      refine bodyPost_ret (v := .agg #[.int .i64 b, .slice B k c']) (sret1 rfl (blk_set2 Y.out _ _) rfl) rfl ⟨B, c', rfl, (D.out).frS (fr1_set2 _ _ _ _) Y.out (by decide) (by decide), fr_set2 F.out (by omega) _ _⟩
end Go.Proofs.Ytcbllkkbpjobpaa
