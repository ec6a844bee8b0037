/- Which streams may be, and a stream's count. Conditions stand in the statements. -/
import Derived.Test.YtcbllkkbpjobpaaInMay
set_option linter.unusedVariables false
namespace Go.Proofs.Ytcbllkkbpjobpaa
open Go.RowKit

theorem may1_any (x : Dd) (B : Option Addr) (e : Nat) (w : World) (hn : x.t.length ≤ 9223372036854775807) :
    Calls Try.prog 38 #[.agg #[.int .i64 x.kind, .slice B x.t.length e, .int .i64 x.rows, .int .i64 x.cols]] w fun e w' => e = .returned (.bool (!(mayD x))) ∧ Fr0 w w' := by
  have HM := Lib.hid (fun W => may_any x.kind x.rows x.cols B x.t.length e W hn)
  have HD := Lib.hid (show mayN x.kind x.t.length x.rows x.cols = mayD x from rfl)
  obtain ⟨m, hm⟩ : ∃ m, m = mayD x := ⟨_, rfl⟩
  rw [← hm] at HD ⊢
  clear hm
  go_enter Try.func38, Try.ntmps38
  go_wp2_with (go_at_call 26; refine (HM.out _).mono ?_; rintro e w1 ⟨rfl, hf⟩; have F1 := Lib.hid hf; rw [HD.out]; clear hf)
  go_ret
  exact ⟨rfl, ((Fr0.refl w).alloc _).trans F1.out⟩
theorem all_take {f : Dd → Bool} {l : List Dd} {k : Nat} (hk : k < l.length) (h : (l.take k).all f = true) (h2 : f l[k] = true) : (l.take (k + 1)).all f = true := by
  rw [List.take_succ_eq_append_getElem hk, List.all_append, h]
  simp [h2]
theorem all_no {f : Dd → Bool} {l : List Dd} {k : Nat} (hk : k < l.length) (h2 : f l[k] = false) : l.all f = false := by
  rw [List.all_eq_false]
  exact ⟨l[k], List.getElem_mem hk, by simp [h2]⟩
set_option maxHeartbeats 1000000 in
theorem ifunc_any {A : Option Addr} {c : Nat} {l : List Dd} {w : World} (h : Ds w (.slice A l.length c) l) :
    Calls Try.prog 55 #[.slice A l.length c, .func (.func 38) #[] #[]] w fun e w' => ∃ z : Int, e = .returned (.int .i64 z) ∧ Fr0 w w' ∧ Hid (decide (0 ≤ z) = !(l.all mayD)) := by
  have l63 := h.le63
  have H := Lib.hid h
  clear h
  go_enter Try.func55, Try.ntmps55
  go_wp2_with fail
  go_loopw [8] (fun v8 wr => ∃ k : Nat, k ≤ l.length ∧ v8 = .int .i64 k ∧ Fr0 w wr ∧ Hid ((l.take k).all mayD = true)) (fun v8 _ => l.length - (intOf v8).toNat)
  case atStart => exact ⟨0, Nat.zero_le _, rfl, Fr0.refl _, Lib.hid (by simp)⟩
  case round =>
    obtain ⟨k, hk, rfl, hfr, hno⟩ := hrel
    by_cases hlt : k < l.length
    · have i1 : (k : Int) < (l.length : Int) := by omega
      obtain ⟨g, off, B, e, rfl, hkc, -, c0, c1, c2, c3, hr⟩ := ((H.out).fr0 hfr).cell hlt
      have HC := Lib.hid (may1_any l[k] B e wr (by have := hr.le63; omega))
      have F := Lib.hid hfr
      clear hr hfr
      obtain ⟨m, hm⟩ : ∃ m, m = !(mayD l[k]) := ⟨_, rfl⟩
      rw [← hm] at HC
      have HM := Lib.hid hm
      clear hm
      cases m
      · go_wp2_with (go_at_call 38; refine (HC.out).mono ?_; rintro e w1 ⟨rfl, hf⟩; have F1 := Lib.hid (Fr0.trans F.out hf); clear hf)
        go_roundw
        case rel => exact ⟨k + 1, by omega, by go_num, F1.out, Lib.hid (all_take hlt hno.out (by have := HM.out; simpa using this.symm))⟩
        case measure => simp [intOf]; omega
      · go_wp2_with (go_at_call 38; refine (HC.out).mono ?_; rintro e w1 ⟨rfl, hf⟩; have F1 := Lib.hid (Fr0.trans F.out hf); clear hf)
        go_ret
        exact ⟨_, rfl, F1.out, Lib.hid (by rw [all_no hlt (by have := HM.out; simpa using this.symm)]; simp)⟩
    · obtain rfl : k = l.length := by omega
      have F := Lib.hid hfr
      clear hfr
      go_wp2_with fail
      go_ret
      exact ⟨_, rfl, F.out, Lib.hid (by have := hno.out; rw [List.take_length] at this; rw [this]; rfl)⟩
theorem cfunc_any {A : Option Addr} {c : Nat} {l : List Dd} {w : World} (h : Ds w (.slice A l.length c) l) :
    Calls Try.prog 37 #[.slice A l.length c, .func (.func 38) #[] #[]] w fun e w' => e = .returned (.bool (!(l.all mayD))) ∧ Fr0 w w' := by
  have H := Lib.hid (ifunc_any h)
  clear h
  go_enter Try.func37, Try.ntmps37
  go_wp2_with (go_at_call 55; refine (H.out).mono ?_; rintro e w1 ⟨z, rfl, hf, hz⟩; have F1 := Lib.hid hf; clear hf)
  go_ret
  exact ⟨by have := hz.out; rw [← this]; rfl, F1.out⟩
set_option maxHeartbeats 1000000 in
theorem mayS_any {b : Int} {A : Option Addr} {c : Nat} {l : List Dd} {w : World} (h : Ds w (.slice A l.length c) l) :
    Calls Try.prog 22 #[.agg #[.int .i64 b, .slice A l.length c]] w fun e w' => e = .returned (.bool (mayS b l)) ∧ Fr0 w w' := by
  have l63 := h.le63
  have H := Lib.hid (cfunc_any (h.fr0 ((Fr0.refl w).alloc (.cells #[.int .i64 b, .slice A l.length c] 24))))
  clear h
  obtain ⟨n, hn⟩ : ∃ n, n = l.length := ⟨_, rfl⟩
  have HN := Lib.hid hn
  rw [← hn] at l63 ⊢
  rw [← hn] at H
  clear hn
  by_cases h1 : b < 0
  · have b1 : decide (b < 0) = true := by simpa using h1
    have HR := Lib.hid (show mayS b l = false by unfold mayS; rw [decide_eq_false (by omega)]; rfl)
    clear h1
    go_enter Try.func22, Try.ntmps22
    go_wp2_with fail
    go_ret
    exact ⟨by rw [HR.out]; rfl, (Fr0.refl w).alloc _⟩
  have b1 : decide (b < 0) = false := by simpa using h1
  by_cases h2 : 64 < n
  · have b2 : decide (64 < (n : Int)) = true := by simp; omega
    have b3 : decide (64 < n) = true := by simpa using h2
    have HR := Lib.hid (show mayS b l = false by unfold mayS; rw [decide_eq_false (by have := HN.out; omega)]; rfl)
    clear h1 h2
    go_enter Try.func22, Try.ntmps22
    go_wp2_with fail
    go_ret
    exact ⟨by rw [HR.out]; rfl, (Fr0.refl w).alloc _⟩
  have b2 : decide (64 < (n : Int)) = false := by simp; omega
  have b3 : decide (64 < n) = false := by simpa using h2
  have w1 : IntKind.i64.wrap (1073741824 - (n : Int)) = 1073741824 - (n : Int) := by rw [IntKind.wrap_i64]; omega
  by_cases h3 : 1073741824 - (n : Int) < b
  · have b4 : decide (1073741824 - (n : Int) < b) = true := by simpa using h3
    have HR := Lib.hid (show mayS b l = false by unfold mayS; rw [decide_eq_false (by have := HN.out; omega)]; rfl)
    clear h1 h2 h3
    go_enter Try.func22, Try.ntmps22
    go_wp2_with fail
    go_ret
    exact ⟨by rw [HR.out]; rfl, (Fr0.refl w).alloc _⟩
  have b4 : decide (1073741824 - (n : Int) < b) = false := by simpa using h3
  have HR := Lib.hid (show mayS b l = l.all mayD by unfold mayS; rw [decide_eq_true (by have := HN.out; omega)]; rfl)
  clear h1 h2 h3
  go_enter Try.func22, Try.ntmps22
  go_wp2_with (go_at_call 37; refine (H.out).mono ?_; rintro e w1 ⟨rfl, hf⟩; have F1 := Lib.hid hf; clear hf)
  go_ret
  exact ⟨by rw [HR.out]; simp, ((Fr0.refl w).alloc _).trans F1.out⟩
/-- A stream's count. -/
def cntS (b : Int) (l : List Dd) : Int := if mayS b l then b + l.length else 0
theorem mayS_bnd {b : Int} {l : List Dd} (h : mayS b l = true) : 0 ≤ b ∧ l.length ≤ 64 ∧ b + l.length ≤ 1073741824 ∧ ∀ x ∈ l, mayD x = true := by
  unfold mayS at h
  rw [Bool.and_eq_true, decide_eq_true_eq, List.all_eq_true] at h
  exact ⟨h.1.1, h.1.2.1, h.1.2.2, h.2⟩
theorem mayD_len {x : Dd} (h : mayD x = true) : x.t.length ≤ 16 := by
  unfold mayD mayN at h
  (repeat' split at h) <;> first | (rw [decide_eq_true_eq] at h; omega) | cases h
set_option maxHeartbeats 1000000 in
theorem count_any {b : Int} {A : Option Addr} {c : Nat} {l : List Dd} {w : World} (h : Ds w (.slice A l.length c) l) :
    Calls Try.prog 23 #[.agg #[.int .i64 b, .slice A l.length c]] w fun e w' => e = .returned (.int .i64 (cntS b l)) ∧ Fr0 w w' := by
  have H := Lib.hid (mayS_any (b := b) (h.fr0 ((Fr0.refl w).alloc (.cells #[.int .i64 b, .slice A l.length c] 24))))
  have HB := Lib.hid (mayS_bnd (b := b) (l := l))
  have HC := Lib.hid (show cntS b l = if mayS b l then b + l.length else 0 from rfl)
  have BX := Lib.hid (Blk.new w #[.int .i64 b, .slice A l.length c] 24)
  obtain ⟨n, hn⟩ : ∃ n, n = l.length := ⟨_, rfl⟩
  obtain ⟨m, hm⟩ : ∃ m, m = mayS b l := ⟨_, rfl⟩
  rw [← hn] at H HB HC BX ⊢
  rw [← hm] at H HB HC
  obtain ⟨cn, hcn⟩ : ∃ cn, cn = cntS b l := ⟨_, rfl⟩
  rw [← hcn] at HC ⊢
  clear hn hm hcn h
  cases m
  · have H2 := Lib.hid (show cn = 0 from HC.out)
    clear HC
    go_enter Try.func23, Try.ntmps23
    go_wp2_with (go_at_call 22; refine (H.out).mono ?_; rintro e w1 ⟨rfl, hf⟩; have F1 := Lib.hid (Fr0.trans ((Fr0.refl w).alloc _) hf); clear hf)
    go_ret
    exact ⟨by rw [H2.out]; rfl, F1.out⟩
  · obtain ⟨i1, i2, i3, -⟩ := (HB.out) rfl
    have H2 := Lib.hid (show cn = b + n from HC.out)
    clear HC
    have w1 : IntKind.i64.wrap (b + (n : Int)) = b + (n : Int) := by rw [IntKind.wrap_i64]; omega
    go_enter Try.func23, Try.ntmps23
    go_wp2_with (go_at_call 22; refine (H.out).mono ?_; rintro e w1 ⟨rfl, hf⟩; have F1 := Lib.hid (Fr0.trans ((Fr0.refl w).alloc _) hf); have c0 := ((BX.out).fr0 hf).cell 0 rfl; have c1 := ((BX.out).fr0 hf).cell 1 rfl; clear hf)
    go_ret
    exact ⟨by rw [H2.out]; rfl, F1.out⟩
end Go.Proofs.Ytcbllkkbpjobpaa
