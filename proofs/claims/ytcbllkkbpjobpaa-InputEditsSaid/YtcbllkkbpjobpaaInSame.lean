/- Whether two streams are the same. Conditions stand in the statements. -/
import Derived.Test.YtcbllkkbpjobpaaInMay2
import Derived.Test.YtcbllkkbpjobpaaBEqual
set_option linter.unusedVariables false
namespace Go.Proofs.Ytcbllkkbpjobpaa
open Go.RowKit

/-- The cells of a deed whose text lies at such a slice. -/
def ddA (x : Dd) (B : Option Addr) (e : Nat) : Array Value := #[.int .i64 x.kind, .slice B x.t.length e, .int .i64 x.rows, .int .i64 x.cols]
theorem dd_eq {x y : Dd} : (decide (x = y)) = (decide (x.kind = y.kind) && decide (x.t = y.t) && decide (x.rows = y.rows) && decide (x.cols = y.cols)) := by
  obtain ⟨a, b, c, d⟩ := x
  obtain ⟨a2, b2, c2, d2⟩ := y
  simp only [Dd.mk.injEq, Bool.decide_and, Bool.and_assoc]
set_option maxHeartbeats 1000000 in
theorem same1_any {x y : Dd} {B B2 : Option Addr} {e e2 : Nat} {w : World} (hx : RdB w (.slice B x.t.length e) x.t) (hy : RdB w (.slice B2 y.t.length e2) y.t) :
    Calls Try.prog 40 #[.agg (ddA x B e), .agg (ddA y B2 e2)] w fun e w' => e = .returned (.bool (decide (x = y))) ∧ Fr0 w w' := by
  have hf : Fr0 w ((w.alloc (.cells #[.int .i64 x.kind, .slice B x.t.length e, .int .i64 x.rows, .int .i64 x.cols] 28)).alloc (.cells #[.int .i64 y.kind, .slice B2 y.t.length e2, .int .i64 y.rows, .int .i64 y.cols] 28)) := ((Fr0.refl w).alloc _).alloc _
  have HQ := Lib.hid (beq_any (hx.fr0 hf) (hy.fr0 hf))
  have HE := Lib.hid (dd_eq (x := x) (y := y))
  have F := Lib.hid hf
  clear hf hx hy
  obtain ⟨r, hr⟩ : ∃ r, r = decide (x = y) := ⟨_, rfl⟩
  rw [← hr] at HE ⊢
  obtain ⟨q, hq⟩ : ∃ q, q = (x.t == y.t) := ⟨_, rfl⟩
  rw [← hq] at HQ
  have HT := Lib.hid (show decide (x.t = y.t) = q by rw [hq]; by_cases h : x.t = y.t <;> simp [h])
  obtain ⟨xk, xt, xr, xc⟩ := x
  obtain ⟨yk, yt, yr, yc⟩ := y
  unfold ddA
  simp only at HE HT HQ F ⊢
  clear hr hq
  by_cases h1 : xk = yk
  · have b1 : (xk == yk) = true := by simpa using h1
    cases q
    · have HR := Lib.hid (show r = false by rw [HE.out, HT.out]; simp)
      clear HE h1
      go_enter Try.func40, Try.ntmps40
      go_wp2_with (go_at_call 41; refine (HQ.out).mono ?_; rintro e w1 ⟨rfl, rfl⟩)
      go_ret
      exact ⟨by rw [HR.out]; rfl, F.out⟩
    · by_cases h2 : xr = yr
      · have b2 : (xr == yr) = true := by simpa using h2
        by_cases h3 : xc = yc
        · have b3 : (xc == yc) = true := by simpa using h3
          have HR := Lib.hid (show r = true by rw [HE.out, HT.out]; simp [h1, h2, h3])
          clear HE h1 h2 h3
          go_enter Try.func40, Try.ntmps40
          go_wp2_with (go_at_call 41; refine (HQ.out).mono ?_; rintro e w1 ⟨rfl, rfl⟩)
          go_ret
          exact ⟨by rw [HR.out]; rfl, F.out⟩
        · have b3 : (xc == yc) = false := by simpa using h3
          have HR := Lib.hid (show r = false by rw [HE.out, HT.out]; simp [h3])
          clear HE h1 h2 h3
          go_enter Try.func40, Try.ntmps40
          go_wp2_with (go_at_call 41; refine (HQ.out).mono ?_; rintro e w1 ⟨rfl, rfl⟩)
          go_ret
          exact ⟨by rw [HR.out]; rfl, F.out⟩
      · have b2 : (xr == yr) = false := by simpa using h2
        have HR := Lib.hid (show r = false by rw [HE.out, HT.out]; simp [h2])
        clear HE h1 h2
        go_enter Try.func40, Try.ntmps40
        go_wp2_with (go_at_call 41; refine (HQ.out).mono ?_; rintro e w1 ⟨rfl, rfl⟩)
        go_ret
        exact ⟨by rw [HR.out]; rfl, F.out⟩
  · have b1 : (xk == yk) = false := by simpa using h1
    have HR := Lib.hid (show r = false by rw [HE.out]; simp [h1])
    clear HE h1
    go_enter Try.func40, Try.ntmps40
    go_wp2_with (go_at_call 41; refine (HQ.out).mono ?_; rintro e w1 ⟨rfl, rfl⟩)
    go_ret
    exact ⟨by rw [HR.out]; rfl, F.out⟩
theorem take_eq_step {l1 l2 : List Dd} {k : Nat} (h1 : k < l1.length) (h2 : k < l2.length) (h : l1.take k = l2.take k) (he : l1[k] = l2[k]) : l1.take (k + 1) = l2.take (k + 1) := by
  rw [List.take_succ_eq_append_getElem h1, List.take_succ_eq_append_getElem h2, h, he]
theorem ne_at {l1 l2 : List Dd} {k : Nat} (h1 : k < l1.length) (h2 : k < l2.length) (he : ¬ l1[k] = l2[k]) : ¬ l1 = l2 := by
  intro e; subst e; exact he rfl
set_option maxHeartbeats 2000000 in
theorem efunc_any {A A2 : Option Addr} {c c2 : Nat} {l l2 : List Dd} {w : World} (h : Ds w (.slice A l.length c) l) (h2 : Ds w (.slice A2 l2.length c2) l2) :
    Calls Try.prog 39 #[.slice A l.length c, .slice A2 l2.length c2, .func (.func 40) #[] #[]] w fun e w' => e = .returned (.bool (decide (l = l2))) ∧ Fr0 w w' := by
  have l63 := h.le63
  have m63 := h2.le63
  by_cases hlen : l.length = l2.length
  · have H := Lib.hid h
    have H2 := Lib.hid h2
    obtain ⟨n, hn⟩ : ∃ n, n = l.length := ⟨_, rfl⟩
    rw [← hlen] at H2 ⊢
    rw [← hn] at H H2 l63 ⊢
    have HN := Lib.hid hn
    have HN2 := Lib.hid (hn.trans hlen)
    clear h h2 hlen hn m63
    obtain ⟨r, hr⟩ : ∃ r, r = decide (l = l2) := ⟨_, rfl⟩
    rw [← hr]
    have HR := Lib.hid hr
    clear hr
    go_enter Try.func39, Try.ntmps39
    go_wp2_with fail
    go_loopw [17] (fun v17 wr => ∃ k : Nat, k ≤ n ∧ v17 = .int .i64 k ∧ Fr0 w wr ∧ Hid (l.take k = l2.take k)) (fun v17 _ => n - (intOf v17).toNat)
    case atStart => exact ⟨0, Nat.zero_le _, rfl, Fr0.refl _, Lib.hid (by simp)⟩
    case round =>
      obtain ⟨k, hk, rfl, hfr, heq⟩ := hrel
      by_cases hlt : k < n
      · have i1 : (k : Int) < (n : Int) := by omega
        have p1 : k < l.length := by have := HN.out; omega
        have p2 : k < l2.length := by have := HN2.out; omega
        have hx := ((H.out).fr0 hfr).cell (i := k) p1
        have hy := ((H2.out).fr0 hfr).cell (i := k) p2
        obtain ⟨x, hx1⟩ : ∃ x, x = l[k] := ⟨_, rfl⟩
        obtain ⟨y, hy1⟩ : ∃ y, y = l2[k] := ⟨_, rfl⟩
        rw [← hx1] at hx
        rw [← hy1] at hy
        have HX := Lib.hid hx1
        have HY := Lib.hid hy1
        obtain ⟨g, off, B, e, rfl, hkc, hgl, c0, c1, c2, c3, hr⟩ := hx
        obtain ⟨g2, off2, B2, e2, rfl, hkc2, hgl2, d0, d1, d2, d3, hr2⟩ := hy
        have F0 := (Fr0.refl wr).alloc (.cells #[.int .i64 x.kind, .slice B x.t.length e, .int .i64 x.rows, .int .i64 x.cols] 28)
        have F1 := Lib.hid (F0.alloc (.cells #[.int .i64 y.kind, .slice B2 y.t.length e2, .int .i64 y.rows, .int .i64 y.cols] 28))
        have y0 := F0.cell d0
        have y1 := F0.cell d1
        have y2 := F0.cell d2
        have y3 := F0.cell d3
        have HC := Lib.hid (same1_any (x := x) (y := y) (hr.fr0 F1.out) (hr2.fr0 F1.out))
        have F := Lib.hid hfr
        clear hr hr2 hfr hx1 hy1 F0 d0 d1 d2 d3
        by_cases hxy : x = y
        · rw [decide_eq_true hxy] at HC
          have HT := Lib.hid (take_eq_step p1 p2 heq.out (by rw [← HX.out, ← HY.out]; exact hxy))
          clear hxy
          unfold ddA at HC
          go_wp2_with (go_at_call 40; refine (HC.out).mono ?_; rintro e w1 ⟨rfl, hf⟩; have FF := Lib.hid (Fr0.trans (Fr0.trans F.out F1.out) hf); clear hf)
          go_roundw
          case rel => exact ⟨k + 1, by omega, by go_num, FF.out, HT⟩
          case measure => simp [intOf]; omega
        · rw [decide_eq_false hxy] at HC
          have HT := Lib.hid (show r = false by rw [HR.out, decide_eq_false (ne_at p1 p2 (by rw [← HX.out, ← HY.out]; exact hxy))])
          clear hxy
          unfold ddA at HC
          go_wp2_with (go_at_call 40; refine (HC.out).mono ?_; rintro e w1 ⟨rfl, hf⟩; have FF := Lib.hid (Fr0.trans (Fr0.trans F.out F1.out) hf); clear hf)
          go_ret
          exact ⟨by rw [HT.out]; rfl, FF.out⟩
      · obtain rfl : k = n := by omega
        have F := Lib.hid hfr
        have HT := Lib.hid (show r = true by
          rw [HR.out, decide_eq_true]
          have := heq.out
          rw [HN.out] at this
          rw [List.take_length, List.take_of_length_le (by have := HN2.out; have := HN.out; omega)] at this
          exact this)
        clear hfr
        go_wp2_with fail
        go_ret
        exact ⟨by rw [HT.out]; rfl, F.out⟩
  · have b1 : ((l.length : Int) != (l2.length : Int)) = true := by simp; omega
    have b2 : (l.length != l2.length) = true := by simpa using hlen
    have HR := Lib.hid (show decide (l = l2) = false by rw [decide_eq_false]; intro e; exact hlen (by rw [e]))
    obtain ⟨r, hr⟩ : ∃ r, r = decide (l = l2) := ⟨_, rfl⟩
    rw [← hr] at HR ⊢
    clear hlen h h2 hr
    go_enter Try.func39, Try.ntmps39
    go_wp2_with fail
    go_ret
    exact ⟨by rw [HR.out]; rfl, Fr0.refl _⟩
set_option maxHeartbeats 1000000 in
theorem same_any {b b2 : Int} {A A2 : Option Addr} {c c2 : Nat} {l l2 : List Dd} {w : World} (h : Ds w (.slice A l.length c) l) (h2 : Ds w (.slice A2 l2.length c2) l2) :
    Calls Try.prog 25 #[.agg #[.int .i64 b, .slice A l.length c], .agg #[.int .i64 b2, .slice A2 l2.length c2]] w fun e w' => e = .returned (.bool (decide (b = b2 ∧ l = l2))) ∧ Fr0 w w' := by
  have hf : Fr0 w ((w.alloc (.cells #[.int .i64 b, .slice A l.length c] 24)).alloc (.cells #[.int .i64 b2, .slice A2 l2.length c2] 24)) := ((Fr0.refl w).alloc _).alloc _
  have HC := Lib.hid (efunc_any (h.fr0 hf) (h2.fr0 hf))
  have F := Lib.hid hf
  clear h h2 hf
  obtain ⟨n, hn⟩ : ∃ n, n = l.length := ⟨_, rfl⟩
  obtain ⟨m, hm⟩ : ∃ m, m = l2.length := ⟨_, rfl⟩
  by_cases h1 : b = b2
  · have b1 : (b == b2) = true := by simpa using h1
    have HR := Lib.hid (show decide (b = b2 ∧ l = l2) = decide (l = l2) by simp [h1])
    obtain ⟨r, hr⟩ : ∃ r, r = decide (b = b2 ∧ l = l2) := ⟨_, rfl⟩
    obtain ⟨r2, hr2⟩ : ∃ r, r = decide (l = l2) := ⟨_, rfl⟩
    rw [← hr, ← hr2] at HR
    rw [← hr2] at HC
    rw [← hr]
    rw [← hn, ← hm] at HC F ⊢
    clear h1 hr hr2 hn hm
    go_enter Try.func25, Try.ntmps25
    go_wp2_with (go_at_call 39; refine (HC.out).mono ?_; rintro e w1 ⟨rfl, hf⟩; have FF := Lib.hid (Fr0.trans F.out hf); clear hf)
    go_ret
    exact ⟨by rw [HR.out]; rfl, FF.out⟩
  · have b1 : (b == b2) = false := by simpa using h1
    have HR := Lib.hid (show decide (b = b2 ∧ l = l2) = false by simp [h1])
    obtain ⟨r, hr⟩ : ∃ r, r = decide (b = b2 ∧ l = l2) := ⟨_, rfl⟩
    rw [← hr] at HR ⊢
    rw [← hn, ← hm] at HC F ⊢
    clear h1 hr hn hm
    go_enter Try.func25, Try.ntmps25
    go_wp2_with fail
    go_ret
    exact ⟨by rw [HR.out]; rfl, F.out⟩
end Go.Proofs.Ytcbllkkbpjobpaa
