/- The chapter's rows: 'known' answers true. Conditions stand in the statements. -/
import Derived.Test.YtbfamnfhnjgllaaHear
import Derived.Test.YtbfamnfhnjgllaaHeld
import Derived.Test.YtbfamnfhnjgllaaApply
import Derived.Lib.SlBytesConst
namespace Go.Proofs.Ytbfamnfhnjgllaa
open Go.RowKit

set_option maxHeartbeats 400000 in
theorem ints_any {v1 v2 : Value} {a b : List Int} {w : World} (h1 : Rd w 1 v1 a.length (icells a)) (h2 : Rd w 1 v2 b.length (icells b)) :
    Calls Try.prog 17 #[v1, v2] w fun e w' => e = .returned (.bool (decide (a = b))) ∧ Fr0 w w' := by
  obtain ⟨A1, c1, rfl, hnc1, _, _⟩ := h1.form
  obtain ⟨A2, c2, rfl, hnc2, _, _⟩ := h2.form
  have l1 := h1.le63
  have l2 := h2.le63
  by_cases hl : a.length = b.length
  · have hlb : ((a.length : Int) != (b.length : Int)) = false := by simp [hl]
    go_enter Try.func17, Try.ntmps17
    go_wp2_with fail
    go_loopw [5] (fun v wr => ∃ k : Nat, k ≤ a.length ∧ v = .int .i64 k ∧ Fr0 w wr ∧ Hid (a.take k = b.take k)) (fun v _ => a.length - (intOf v).toNat)
    case atStart => exact ⟨0, Nat.zero_le _, rfl, Fr0.refl _, by simp [Hid]⟩
    case round =>
      obtain ⟨k, hk, rfl, hf, heq⟩ := hrel
      by_cases hlt : k < a.length
      · obtain ⟨g1, o1, d1, hv1, hi1, _, hc1⟩ := (h1.fr0 hf).cellAt (i := k) hlt
        injection hv1 with hA _ hcc
        subst hA hcc
        obtain ⟨g2, o2, d2, hv2, hi2, _, hc2⟩ := (h2.fr0 hf).cellAt (i := k) (by omega)
        injection hv2 with hA _ hcc
        subst hA hcc
        have e1 := hc1 0 _ (by simpa using icells_at a k hlt)
        have e2 := hc2 0 _ (by simpa using icells_at b k (by omega))
        simp only [Nat.add_zero, Nat.mul_one] at e1 e2
        obtain ⟨x, hx⟩ : ∃ x, x = a[k] := ⟨_, rfl⟩
        obtain ⟨y, hy⟩ : ∃ y, y = b[k]'(by omega) := ⟨_, rfl⟩
        rw [← hx] at e1
        rw [← hy] at e2
        have Hl := Lib.hid hl
        have k0 : (0 : Int) ≤ (k : Int) := by omega
        have k1 : (k : Int) < (a.length : Int) := by omega
        have k2 : (k : Int) < (b.length : Int) := by omega
        by_cases hxy : x = y
        · have hb : (x != y) = false := by simp [hxy]
          have hs : Hid (a.take (k + 1) = b.take (k + 1)) := by
            show _ = _
            rw [List.take_succ_eq_append_getElem hlt, List.take_succ_eq_append_getElem (by omega : k < b.length), heq.out, ← hx, ← hy, hxy]
          clear hc1 hc2 hx hy hxy h1 h2 hl
          go_wp2_with fail
          go_quiet (fail)
          go_wp2_with fail
          go_roundw
          case rel => exact ⟨k + 1, by omega, by go_num, hf.drewN _, hs⟩
          case measure => simp [intOf]; omega
        · have hb : (x != y) = true := by simp [hxy]
          have hne : decide (a = b) = false := by
            simp only [decide_eq_false_iff_not]
            rintro rfl
            exact hxy (hx.trans hy.symm)
          have Hne := Lib.hid hne
          clear hc1 hc2 hx hy hxy h1 h2 hl hne
          go_wp2_with fail
          go_quiet (fail)
          go_wp2_with fail
          go_ret
          exact ⟨by rw [Hne.out]; rfl, hf.drewN _⟩
      · have : k = a.length := by omega
        subst this
        have hab : decide (a = b) = true := by
          have := heq.out
          rw [List.take_length, hl, List.take_length] at this
          simp [this]
        go_wp2_with fail
        go_ret
        exact ⟨by rw [hab]; rfl, hf⟩
  · have hlb : ((a.length : Int) != (b.length : Int)) = true := by simp; omega
    have hab : decide (a = b) = false := by
      simp only [decide_eq_false_iff_not]
      rintro rfl
      exact hl rfl
    go_enter Try.func17, Try.ntmps17
    go_wp2_with fail
    go_ret
    exact ⟨by rw [hab]; rfl, Fr0.refl _⟩

def kl1 : List (Int × ByteArray) := [(0, str [97])]
def kl2 : List (Int × ByteArray) := [(0, str [97]), (1, str [98])]
def kl3 : List (Int × ByteArray) := [(0, str [97]), (1, str [98]), (2, str [99])]
def kl4 : List (Int × ByteArray) := [(1, str [98]), (2, str [99])]
theorem k24a : hear applyF kl1 0 1 0 0 [97, 62, 98] = (kl2, true, 0) := by decide +kernel
theorem k24b : hear applyF kl2 0 2 0 0 [97, 62, 99] = (kl3, true, 0) := by decide +kernel
theorem k24c : hear applyF kl3 1 2 0 1 [98, 62, 99] = (kl4, false, 0) := by decide +kernel
theorem k24d : hear applyF kl4 0 3 0 0 [97, 62, 100] = (kl4, false, 6) := by decide +kernel
theorem ks1 : ∀ x ∈ kl1, x.2.size ≤ 1000000 := by decide +kernel
theorem ks2 : ∀ x ∈ kl2, x.2.size ≤ 1000000 := by decide +kernel
theorem ks3 : ∀ x ∈ kl3, x.2.size ≤ 1000000 := by decide +kernel
theorem ks4 : ∀ x ∈ kl4, x.2.size ≤ 1000000 := by decide +kernel

set_option maxHeartbeats 1000000 in
theorem known_any (w : World) : Calls Try.prog 7 #[] w fun e w' => e = .returned (.bool true) ∧ Fr0 w w' := by
  have hcv := fun (w : World) (C : Array Value) (n c : Nat) => Lib.run_convert_bytes_const (P := Try.prog) w 26 5 C n c Try.underlying26 Try.underlying5
  go_enter Try.func7, Try.ntmps7
  go_wp2_with fail
  refine (new_any _ _ _ _).mono ?_
  rintro e w1 ⟨p, sv, rfl, hin, hp0, hp1, hf⟩
  replace hin : InAt w1 p _ sv kl1 := hin
  go_wp2_with fail
  refine (hear_any apply_fn (hin.fr0 ((Fr0.refl w1).alloc _)) (by decide) (by decide) ks1 _ _ _ _ _ _ [97, 62, 98] (by decide) (lit_bytes w1 5 [97, 62, 98] (by decide) _) (fun _ => by simp [Value.blk]; omega)).mono ?_
  rw [k24a]
  rintro e w2 ⟨sv2, rfl, hin2, hf2⟩
  replace hin2 : InAt w2 p _ sv2 kl2 := hin2
  replace hf := hf.new (((Fr1.refl p w1).alloc _).trans hf2) hp0
  have hp2 := hin2.blk.lt
  go_wp2_with fail
  refine (hear_any apply_fn (hin2.fr0 ((Fr0.refl w2).alloc _)) (by decide) (by decide) ks2 _ _ _ _ _ _ [97, 62, 99] (by decide) (lit_bytes w2 5 [97, 62, 99] (by decide) _) (fun _ => by simp [Value.blk]; omega)).mono ?_
  rw [k24b]
  rintro e w3 ⟨sv3, rfl, hin3, hf3⟩
  replace hin3 : InAt w3 p _ sv3 kl3 := hin3
  replace hf := hf.new (((Fr1.refl p w2).alloc _).trans hf3) hp0
  have hp3 := hin3.blk.lt
  go_wp2_with fail
  refine (hear_any apply_fn (hin3.fr0 ((Fr0.refl w3).alloc _)) (by decide) (by decide) ks3 _ _ _ _ _ _ [98, 62, 99] (by decide) (lit_bytes w3 5 [98, 62, 99] (by decide) _) (fun _ => by simp [Value.blk]; omega)).mono ?_
  rw [k24c]
  rintro e w4 ⟨sv4, rfl, hin4, hf4⟩
  replace hin4 : InAt w4 p _ sv4 kl4 := hin4
  replace hf := hf.new (((Fr1.refl p w3).alloc _).trans hf4) hp0
  have hp4 := hin4.blk.lt
  go_wp2_with fail
  refine (hear_any apply_fn (hin4.fr0 ((Fr0.refl w4).alloc _)) (by decide) (by decide) ks4 _ _ _ _ _ _ [97, 62, 100] (by decide) (lit_bytes w4 5 [97, 62, 100] (by decide) _) (fun _ => by simp [Value.blk]; omega)).mono ?_
  rw [k24d]
  rintro e w5 ⟨sv5, rfl, hin5, hf5⟩
  replace hin5 : InAt w5 p _ sv5 kl4 := hin5
  replace hf := hf.new (((Fr1.refl p w4).alloc _).trans hf5) hp0
  have hp5 := hin5.blk.lt
  go_wp2_with fail
  refine (newest_any hin5 (by decide)).mono ?_
  rintro e w6 ⟨rfl, hf6⟩
  have hin6 := hin5.fr0 hf6
  replace hf := hf.trans hf6
  rw [show (kl4[kl4.length - 1]'(by decide)).1 = 2 from rfl, show (kl4[kl4.length - 1]'(by decide)).2 = ⟨#[99]⟩ from rfl]
  go_wp2_with fail
  refine (held_any hin6 (by decide) (by decide)).mono ?_
  rintro e w7 ⟨v7, rfl, own7, hf7⟩
  replace hf := hf.trans hf7
  go_wp2_with fail
  have hr7 := (Rd.of_own own7).fr0 ((Fr0.refl w7).alloc (Obj.cells #[.int .i64 1, .int .i64 2] 3))
  have hr8 : Rd (w7.alloc (Obj.cells #[.int .i64 1, .int .i64 2] 3)) 1 (.slice (some ⟨w7.heap.size, 0, none⟩) 2 2) 2 (icells [1, 2]) :=
    Rd.of_own (own_of_block (base := 0) (k := 2) (cap := 2) (Blk.new _ _ _) (Nat.zero_le _) (by omega) (by simp [maxLen]) rfl)
  refine (ints_any (a := [1, 2]) (b := [1, 2]) hr7 hr8).mono ?_
  rintro e w8 ⟨rfl, hf8⟩
  replace hf := hf.trans (((Fr0.refl w7).alloc _).trans hf8)
  rw [show decide (([1, 2] : List Int) = [1, 2]) = true from rfl]
  go_wp2_with fail
  go_ret
  exact ⟨rfl, hf⟩
end Go.Proofs.Ytbfamnfhnjgllaa
