/- The reference's May, Same, Since. Conditions stand in the statements. -/
import Derived.Test.YtcbllkkbpjobpaaInCut
import Derived.Test.YtcbllkkbpjobpaaOwn
set_option linter.unusedVariables false
set_option linter.unusedSimpArgs false
namespace Go.Proofs.Ytcbllkkbpjobpaa
open Go.RowKit

set_option maxHeartbeats 4000000 in
theorem rmay_any {b : Int} {A : Option Addr} {c : Nat} {l : List Dd} {w : World} (h : Ds w (.slice A l.length c) l) :
    Calls Try.prog 14 #[.agg #[.int .i64 b, .slice A l.length c]] w fun e w' => e = .returned (.bool (mayS b l)) ∧ Fr0 w w' := by
  have l63 := h.le63
  have FX := Lib.hid ((Fr0.refl w).alloc (.cells #[.int .i64 b, .slice A l.length c] 24))
  have BX := Lib.hid (Blk.new w #[.int .i64 b, .slice A l.length c] 24)
  have H := Lib.hid h
  have HP := Lib.hid (show mayS b l = (decide (0 ≤ b ∧ l.length ≤ 64 ∧ b + l.length ≤ 1073741824) && l.all mayD) from rfl)
  obtain ⟨n, hn⟩ : ∃ n, n = l.length := ⟨_, rfl⟩
  obtain ⟨r, hr⟩ : ∃ n, n = mayS b l := ⟨_, rfl⟩
  rw [← hn] at l63 FX BX H HP ⊢
  rw [← hr] at HP ⊢
  have HN := Lib.hid hn
  clear hn hr h
  by_cases h1 : b < 0
  · have b1 : decide (b < 0) = true := by simpa using h1
    have HR := Lib.hid (show r = false by rw [HP.out, decide_eq_false (by omega)]; rfl)
    clear h1 HP
    go_enter Try.func14, Try.ntmps14
    go_wp2_with fail
    go_ret
    exact ⟨by rw [HR.out]; rfl, FX.out⟩
  have b1 : decide (b < 0) = false := by simpa using h1
  by_cases h2 : 1073741824 < b
  · have b2 : decide (1073741824 < b) = true := by simpa using h2
    have HR := Lib.hid (show r = false by rw [HP.out, decide_eq_false (by omega)]; rfl)
    clear h1 h2 HP
    go_enter Try.func14, Try.ntmps14
    go_wp2_with fail
    go_ret
    exact ⟨by rw [HR.out]; rfl, FX.out⟩
  have b2 : decide (1073741824 < b) = false := by simpa using h2
  by_cases h3 : 64 < n
  · have b3 : decide (64 < (n : Int)) = true := by simp; omega
    have b4 : decide (64 < n) = true := by simpa using h3
    have HR := Lib.hid (show r = false by rw [HP.out, decide_eq_false (by omega)]; rfl)
    clear h1 h2 h3 HP
    go_enter Try.func14, Try.ntmps14
    go_wp2_with fail
    go_ret
    exact ⟨by rw [HR.out]; rfl, FX.out⟩
  have b3 : decide (64 < (n : Int)) = false := by simp; omega
  have b4 : decide (64 < n) = false := by simpa using h3
  have w1 : IntKind.i64.wrap (b + (n : Int)) = b + (n : Int) := by rw [IntKind.wrap_i64]; omega
  by_cases h4 : 1073741824 < b + (n : Int)
  · have b5 : decide (1073741824 < b + (n : Int)) = true := by simpa using h4
    have HR := Lib.hid (show r = false by rw [HP.out, decide_eq_false (by omega)]; rfl)
    clear h1 h2 h3 h4 HP
    go_enter Try.func14, Try.ntmps14
    go_wp2_with fail
    go_ret
    exact ⟨by rw [HR.out]; rfl, FX.out⟩
  have b5 : decide (1073741824 < b + (n : Int)) = false := by simpa using h4
  have HR := Lib.hid (show r = l.all mayD by rw [HP.out, decide_eq_true (by omega)]; rfl)
  have hn64 : n ≤ 64 := by omega
  clear h1 h2 h3 h4 HP
  go_enter Try.func14, Try.ntmps14
  go_wp2_with fail
  go_loopw [3] (fun v3 wr => ∃ k : Nat, k ≤ n ∧ v3 = .int .i64 k ∧ Fr0 (w.alloc (.cells #[.int .i64 b, .slice A n c] 24)) wr ∧ Hid ((l.take k).all mayD = true)) (fun v3 _ => n - (intOf v3).toNat)
  case atStart => exact ⟨0, Nat.zero_le _, rfl, Fr0.refl _, Lib.hid (by simp)⟩
  case round =>
    obtain ⟨k, hk, rfl, hfr, hno⟩ := hrel
    have x1 := ((BX.out).fr0 hfr).cell 1 rfl
    by_cases hlt : k < n
    · have i1 : (k : Int) < (n : Int) := by omega
      have p1 : k < l.length := by have := HN.out; omega
      have hx := ((H.out).fr0 (Fr0.trans FX.out hfr)).cell (i := k) p1
      have HX := Lib.hid (fun (h : mayD l[k] = false) => all_no p1 h)
      have HY := Lib.hid (fun (h1 : (l.take k).all mayD = true) (h : mayD l[k] = true) => all_take p1 h1 h)
      obtain ⟨x, hx1⟩ : ∃ x, x = l[k] := ⟨_, rfl⟩
      rw [← hx1] at hx HX HY
      obtain ⟨g, off, B, e, rfl, hkc, -, c0, c1, c2, c3, hrd⟩ := hx
      have HC := Lib.hid (fun W => rdeed_any x.kind x.rows x.cols B x.t.length e W (by have := hrd.le63; omega))
      have F := Lib.hid hfr
      have HD := Lib.hid (show mayN x.kind x.t.length x.rows x.cols = mayD x from rfl)
      rw [HD.out] at HC
      clear hrd hfr HD p1 hx1
      obtain ⟨m, hm⟩ : ∃ m, m = mayD x := ⟨_, rfl⟩
      rw [← hm] at HC HX HY
      clear hm
      cases m
      · have HR2 := Lib.hid (show r = false by rw [HR.out, HX.out rfl])
        go_wp2_with (go_at_call 15; refine (HC.out _).mono ?_; rintro e w1 ⟨rfl, hf⟩; have F1 := Lib.hid (Fr0.trans F.out hf); clear hf)
        go_ret
        exact ⟨by rw [HR2.out]; rfl, Fr0.trans FX.out F1.out⟩
      · have HT := Lib.hid (HY.out hno.out rfl)
        go_wp2_with (go_at_call 15; refine (HC.out _).mono ?_; rintro e w1 ⟨rfl, hf⟩; have F1 := Lib.hid (Fr0.trans F.out hf); clear hf)
        go_roundw
        case rel => exact ⟨k + 1, by omega, by go_num, F1.out, HT⟩
        case measure => simp [intOf]; omega
    · obtain rfl : k = n := by omega
      have F := Lib.hid hfr
      have HR2 := Lib.hid (show r = true by rw [HR.out]; have := hno.out; rw [HN.out, List.take_length] at this; exact this)
      clear hfr
      go_wp2_with fail
      go_ret
      exact ⟨by rw [HR2.out]; rfl, Fr0.trans FX.out F.out⟩
set_option maxHeartbeats 4000000 in
set_option maxRecDepth 100000 in
theorem rsame_any {b b2 : Int} {A A2 : Option Addr} {c c2 : Nat} {l l2 : List Dd} {w : World} (h : Ds w (.slice A l.length c) l) (h2 : Ds w (.slice A2 l2.length c2) l2) :
    Calls Try.prog 16 #[.agg #[.int .i64 b, .slice A l.length c], .agg #[.int .i64 b2, .slice A2 l2.length c2]] w fun e w' => e = .returned (.bool (decide (b = b2 ∧ l = l2))) ∧ Fr0 w w' := by
  have l63 := h.le63
  have m63 := h2.le63
  obtain ⟨wa, hwa⟩ : ∃ W, W = (w.alloc (.cells #[.int .i64 b, .slice A l.length c] 24)).alloc (.cells #[.int .i64 b2, .slice A2 l2.length c2] 24) := ⟨_, rfl⟩
  have FX := Lib.hid (show Fr0 w wa by rw [hwa]; exact ((Fr0.refl w).alloc _).alloc _)
  have BX := Lib.hid (show Blk wa w.heap.size #[.int .i64 b, .slice A l.length c] 24 by rw [hwa]; exact (Blk.new w _ 24).alloc _)
  have BY := Lib.hid (show Blk wa (w.heap.size + 1) #[.int .i64 b2, .slice A2 l2.length c2] 24 by rw [hwa]; have := Blk.new (w.alloc (.cells #[.int .i64 b, .slice A l.length c] 24)) #[.int .i64 b2, .slice A2 l2.length c2] 24; simpa using this)
  have H := Lib.hid h
  have H2 := Lib.hid h2
  have HLL := Lib.hid (fun (e : l = l2) => congrArg List.length e)
  obtain ⟨n, hn⟩ : ∃ n, n = l.length := ⟨_, rfl⟩
  obtain ⟨m, hm⟩ : ∃ n, n = l2.length := ⟨_, rfl⟩
  obtain ⟨r, hr⟩ : ∃ n, n = decide (b = b2 ∧ l = l2) := ⟨_, rfl⟩
  rw [← hn] at l63 BX H HLL hwa ⊢
  rw [← hm] at m63 BY H2 HLL hwa ⊢
  rw [← hr]
  have HR := Lib.hid hr
  have HN := Lib.hid hn
  have HM := Lib.hid hm
  clear hn hm hr h h2
  subst hwa
  by_cases h1 : b = b2
  · have b1 : (b != b2) = false := by simpa using h1
    by_cases h3 : n = m
    · subst h3
      have HB := Lib.hid h1
      clear h1 m63
      go_enter Try.func16, Try.ntmps16
      go_wp2_with fail
      go_loopw [5] (fun v5 wr => ∃ k : Nat, k ≤ n ∧ v5 = .int .i64 k ∧ Fr0 ((w.alloc (.cells #[.int .i64 b, .slice A n c] 24)).alloc (.cells #[.int .i64 b2, .slice A2 n c2] 24)) wr ∧ Hid (l.take k = l2.take k)) (fun v5 _ => n - (intOf v5).toNat)
      case atStart => exact ⟨0, Nat.zero_le _, rfl, Fr0.refl _, Lib.hid (by simp)⟩
      case round =>
        obtain ⟨k, hk, rfl, hfr, heq⟩ := hrel
        have x1 := ((BX.out).fr0 hfr).cell 1 rfl
        by_cases hlt : k < n
        · have i1 : (k : Int) < (n : Int) := by omega
          have p1 : k < l.length := by have := HN.out; omega
          have p2 : k < l2.length := by have := HM.out; omega
          have hx := ((H.out).fr0 (Fr0.trans FX.out hfr)).cell (i := k) p1
          have hy := ((H2.out).fr0 (Fr0.trans FX.out hfr)).cell (i := k) p2
          have HT := Lib.hid (fun (h : l[k] = l2[k]) => take_eq_step p1 p2 heq.out h)
          have HNE := Lib.hid (fun (h : ¬ l[k] = l2[k]) => ne_at p1 p2 h)
          obtain ⟨x, hx1⟩ : ∃ x, x = l[k] := ⟨_, rfl⟩
          obtain ⟨y, hy1⟩ : ∃ y, y = l2[k] := ⟨_, rfl⟩
          rw [← hx1] at hx HT HNE
          rw [← hy1] at hy HT HNE
          obtain ⟨g, off, B, e, rfl, hkc, hgl, c0, c1, c2, c3, hrd⟩ := hx
          obtain ⟨g2, off2, B2, e2, rfl, hkc2, hgl2, d0, d1, d2, d3, hrd2⟩ := hy
          have F0 := (Fr0.refl wr).alloc (.cells #[.int .i64 x.kind, .slice B x.t.length e, .int .i64 x.rows, .int .i64 x.cols] 28)
          have F1 := Lib.hid (F0.alloc (.cells #[.int .i64 y.kind, .slice B2 y.t.length e2, .int .i64 y.rows, .int .i64 y.cols] 28))
          have y0 := F0.cell d0
          have y1 := F0.cell d1
          have y2 := F0.cell d2
          have y3 := F0.cell d3
          have z1 := (((BY.out).fr0 hfr).fr0 F0).cell 1 rfl
          have q1 := conv_own (hrd.fr0 F1.out)
          have q2 := conv_own (hrd2.fr0 F1.out)
          have t1 := strI x.t
          have t2 := strI y.t
          have F := Lib.hid hfr
          have HE := Lib.hid (dd_eq (x := x) (y := y))
          clear hrd hrd2 hfr hx1 hy1 F0 d0 d1 d2 d3 p1 p2
          obtain ⟨xk, xt, xr, xc⟩ := x
          obtain ⟨yk, yt, yr, yc⟩ := y
          simp only at HE HT HNE c0 c1 c2 c3 y0 y1 y2 y3 z1 q1 q2 t1 t2 F1
          by_cases e1 : xk = yk
          · have s1 : (xk != yk) = false := by simpa using e1
            by_cases e2 : xr = yr
            · have s2 : (xr != yr) = false := by simpa using e2
              by_cases e3 : xc = yc
              · have s3 : (xc != yc) = false := by simpa using e3
                by_cases e4 : xt = yt
                · have s4 : (xt != yt) = false := by simpa using e4
                  have s5 : (xt == yt) = true := by simpa using e4
                  have HT2 := Lib.hid (HT.out (by rw [e1, e2, e3, e4]))
                  clear e1 e2 e3 e4 HE
                  go_wp2_with fail
                  go_roundw
                  case rel => exact ⟨k + 1, by omega, by go_num, Fr0.trans F.out F1.out, HT2⟩
                  case measure => simp [intOf]; omega
                · have s4 : (xt != yt) = true := by simpa using e4
                  have s5 : (xt == yt) = false := by simpa using e4
                  have HR2 := Lib.hid (show r = false by rw [HR.out, decide_eq_false (fun h => HNE.out (fun h => e4 (by injection h)) h.2)])
                  clear e1 e2 e3 e4 HE
                  go_wp2_with fail
                  go_ret
                  exact ⟨by rw [HR2.out]; rfl, Fr0.trans FX.out (Fr0.trans F.out F1.out)⟩
              · have s3 : (xc != yc) = true := by simpa using e3
                have HR2 := Lib.hid (show r = false by rw [HR.out, decide_eq_false (fun h => HNE.out (fun h => e3 (by injection h)) h.2)])
                clear e1 e2 e3 HE
                go_wp2_with fail
                go_ret
                exact ⟨by rw [HR2.out]; rfl, Fr0.trans FX.out (Fr0.trans F.out F1.out)⟩
            · have s2 : (xr != yr) = true := by simpa using e2
              have HR2 := Lib.hid (show r = false by rw [HR.out, decide_eq_false (fun h => HNE.out (fun h => e2 (by injection h)) h.2)])
              clear e1 e2 HE
              go_wp2_with fail
              go_ret
              exact ⟨by rw [HR2.out]; rfl, Fr0.trans FX.out (Fr0.trans F.out F1.out)⟩
          · have s1 : (xk != yk) = true := by simpa using e1
            have HR2 := Lib.hid (show r = false by rw [HR.out, decide_eq_false (fun h => HNE.out (fun h => e1 (by injection h)) h.2)])
            clear e1 HE
            go_wp2_with fail
            go_ret
            exact ⟨by rw [HR2.out]; rfl, Fr0.trans FX.out (Fr0.trans F.out F1.out)⟩
        · obtain rfl : k = n := by omega
          have F := Lib.hid hfr
          have HR2 := Lib.hid (show r = true by
            rw [HR.out, decide_eq_true]
            refine ⟨HB.out, ?_⟩
            have := heq.out
            rw [HN.out] at this
            rw [List.take_length, List.take_of_length_le (by have := HM.out; have := HN.out; omega)] at this
            exact this)
          clear hfr
          go_wp2_with fail
          go_ret
          exact ⟨by rw [HR2.out]; rfl, Fr0.trans FX.out F.out⟩
    · have b2 : ((n : Int) != (m : Int)) = true := by simp; omega
      have b3 : (n != m) = true := by simpa using h3
      have HR2 := Lib.hid (show r = false by rw [HR.out, decide_eq_false (fun h => h3 (HLL.out h.2))])
      clear h1 h3
      go_enter Try.func16, Try.ntmps16
      go_wp2_with fail
      go_ret
      exact ⟨by rw [HR2.out]; rfl, FX.out⟩
  · have b1 : (b != b2) = true := by simpa using h1
    have HR2 := Lib.hid (show r = false by rw [HR.out, decide_eq_false (fun h => h1 h.1)])
    clear h1
    go_enter Try.func16, Try.ntmps16
    go_wp2_with fail
    go_ret
    exact ⟨by rw [HR2.out]; rfl, FX.out⟩
end Go.Proofs.Ytcbllkkbpjobpaa
