/- Streams that a statement looks at. Conditions stand in the statements. -/
import Derived.Test.YtcbllkkbpjobpaaInCut
set_option linter.unusedVariables false
set_option linter.unusedSimpArgs false
namespace Go.Proofs.Ytcbllkkbpjobpaa
open Go.RowKit

def smallT (x : Dd) : Bool := decide (x.t.length ≤ 100)
def greatS (l : List Dd) : Bool := decide (80 < l.length) || !(l.all smallT)
theorem greatS_no {l : List Dd} (h : greatS l = false) : l.length ≤ 80 ∧ ∀ x ∈ l, x.t.length ≤ 100 := by
  unfold greatS at h
  rw [Bool.or_eq_false_iff, decide_eq_false_iff_not, Bool.not_eq_false', List.all_eq_true] at h
  exact ⟨by omega, fun x hx => by have := h.2 x hx; unfold smallT at this; simpa using this⟩
set_option maxHeartbeats 4000000 in
theorem great_any {b : Int} {A : Option Addr} {c : Nat} {l : List Dd} {w : World} (h : Ds w (.slice A l.length c) l) :
    Calls Try.prog 9 #[.agg #[.int .i64 b, .slice A l.length c]] w fun e w' => e = .returned (.bool (greatS l)) ∧ Fr0 w w' := by
  have l63 := h.le63
  have FX := Lib.hid ((Fr0.refl w).alloc (.cells #[.int .i64 b, .slice A l.length c] 24))
  have BX := Lib.hid (Blk.new w #[.int .i64 b, .slice A l.length c] 24)
  have H := Lib.hid h
  have HP := Lib.hid (show greatS l = (decide (80 < l.length) || !(l.all smallT)) from rfl)
  obtain ⟨n, hn⟩ : ∃ n, n = l.length := ⟨_, rfl⟩
  obtain ⟨r, hr⟩ : ∃ n, n = greatS l := ⟨_, rfl⟩
  rw [← hn] at l63 FX BX H HP ⊢
  rw [← hr] at HP ⊢
  have HN := Lib.hid hn
  clear hn hr h
  by_cases h3 : 80 < n
  · have b3 : decide (80 < (n : Int)) = true := by simp; omega
    have b4 : decide (80 < n) = true := by simpa using h3
    have HR := Lib.hid (show r = true by rw [HP.out, decide_eq_true h3]; rfl)
    clear h3 HP
    go_enter Try.func9, Try.ntmps9
    go_wp2_with fail
    go_ret
    exact ⟨by rw [HR.out]; rfl, FX.out⟩
  have b3 : decide (80 < (n : Int)) = false := by simp; omega
  have b4 : decide (80 < n) = false := by simpa using h3
  have HR := Lib.hid (show r = !(l.all smallT) by rw [HP.out, decide_eq_false h3]; rfl)
  clear h3 HP
  go_enter Try.func9, Try.ntmps9
  go_wp2_with fail
  go_loopw [3] (fun v3 wr => ∃ k : Nat, k ≤ n ∧ v3 = .int .i64 k ∧ wr = w.alloc (.cells #[.int .i64 b, .slice A n c] 24) ∧ Hid ((l.take k).all smallT = true)) (fun v3 _ => n - (intOf v3).toNat)
  case atStart => exact ⟨0, Nat.zero_le _, rfl, rfl, Lib.hid (by simp)⟩
  case round =>
    obtain ⟨k, hk, rfl, rfl, hno⟩ := hrel
    have x1 := (BX.out).cell 1 rfl
    by_cases hlt : k < n
    · have i1 : (k : Int) < (n : Int) := by omega
      have p1 : k < l.length := by have := HN.out; omega
      have hx := ((H.out).fr0 FX.out).cell (i := k) p1
      have HX := Lib.hid (fun (h : smallT l[k] = false) => (by rw [List.all_eq_false]; exact ⟨l[k], List.getElem_mem p1, by simp [h]⟩ : l.all smallT = false))
      have HY := Lib.hid (fun (h1 : (l.take k).all smallT = true) (h : smallT l[k] = true) => (by rw [List.take_succ_eq_append_getElem p1, List.all_append, h1]; simp [h] : (l.take (k + 1)).all smallT = true))
      obtain ⟨x, hx1⟩ : ∃ x, x = l[k] := ⟨_, rfl⟩
      rw [← hx1] at hx HX HY
      obtain ⟨g, off, B, e, rfl, hkc, -, c0, c1, c2, c3, hrd⟩ := hx
      have x63 := hrd.le63
      clear hrd p1 hx1
      by_cases hs : x.t.length ≤ 100
      · have s1 : decide (100 < (x.t.length : Int)) = false := by simp; omega
        have s2 : decide (100 < x.t.length) = false := by simp; omega
        have HT := Lib.hid (HY.out hno.out (by unfold smallT; exact decide_eq_true hs))
        clear hs HX HY
        go_wp2_with fail
        go_roundw
        case rel => first | exact ⟨k + 1, by omega, by go_num, rfl, HT⟩ | exact ⟨k + 1, by omega, by go_num, trivial, HT⟩
        case measure => simp [intOf]; omega
      · have s1 : decide (100 < (x.t.length : Int)) = true := by simp; omega
        have s2 : decide (100 < x.t.length) = true := by simp; omega
        have HR2 := Lib.hid (show r = true by rw [HR.out, HX.out (by unfold smallT; exact decide_eq_false hs)]; rfl)
        clear hs HX HY
        go_wp2_with fail
        go_ret
        exact ⟨by rw [HR2.out]; rfl, FX.out⟩
    · obtain rfl : k = n := by omega
      have HR2 := Lib.hid (show r = false by rw [HR.out]; have := hno.out; rw [HN.out, List.take_length] at this; rw [this]; rfl)
      go_wp2_with fail
      go_ret
      exact ⟨by rw [HR2.out]; rfl, FX.out⟩
end Go.Proofs.Ytcbllkkbpjobpaa
