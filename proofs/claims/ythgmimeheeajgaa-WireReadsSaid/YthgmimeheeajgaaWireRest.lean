/- The reader's Rest, Left, Err, End; a reader that is not there. Conditions stand in the statements. -/
import Derived.Test.YthgmimeheeajgaaWireRFix2
namespace Go.Proofs.Ythgmimeheeajgaa
open Go.RowKit

def rRest (d : List UInt8) (e : Int) : List UInt8 × List UInt8 × Int := if e ≠ 0 then ([], d, e) else (d, [], 0)

set_option maxHeartbeats 400000 in
theorem rest1_any {p b0 : Nat} {A : Option Addr} {c : Nat} {d : List UInt8} {e : Int} {w : World} (h : RdrV w p A c d e)
    (h0 : Blk w b0 #[.pointer (some ⟨p, 0, none⟩)] 27) :
    Calls Try.prog 38 #[.pointer (some ⟨b0, 0, none⟩)] w fun x w' => x = .returned (.tuple #[.int .i64 (d.length : Nat), .int .i64 0]) ∧ w' = w := by
  have c0 : w.cell? ⟨p, 0, none⟩ = some (.slice A d.length c) := h.blk.cell 0 rfl
  have d0 : w.cell? ⟨b0, 0, none⟩ = some (.pointer (some ⟨p, 0, none⟩)) := h0.cell 0 rfl
  clear h h0
  go_enter Try.func38, Try.ntmps38
  go_wp2_with fail
  go_ret2
  exact ⟨rfl, rfl⟩

set_option maxHeartbeats 400000 in
theorem rrest_any {p : Nat} {A : Option Addr} {c : Nat} {d : List UInt8} {e : Int} {w : World} (h : RdrV w p A c d e) (hn : d.length ≤ 100000000) :
    Calls Try.prog 27 #[.pointer (some ⟨p, 0, none⟩)] w fun x w' => ∃ v, x = .returned v ∧ w'.ownsRow w.heap.size 5 1 v (rRest d e).1.length (byts (rRest d e).1) ∧ Fr1 p w w' ∧ ∃ A' c', RdrV w' p A' c' (rRest d e).2.1 (rRest d e).2.2 := by
  obtain ⟨wa, hwa⟩ : ∃ wa, wa = (w.alloc (.cells #[.pointer (some ⟨p, 0, none⟩)] 27)) := ⟨_, rfl⟩
  have hfa : Fr0 w wa := by rw [hwa]; exact (Fr0.refl w).alloc _
  have ha := h.fr0 hfa
  have b0 : Blk wa w.heap.size #[.pointer (some ⟨p, 0, none⟩)] 27 := by rw [hwa]; exact Blk.new _ _ _
  have hT : Calls Try.prog 33 #[.pointer (some ⟨p, 0, none⟩), .func (.func 38) #[] #[.pointer (some ⟨w.heap.size, 0, none⟩)]] wa fun x w2 =>
      ∃ Av cv, x = .returned (.slice Av (rRest d e).1.length cv) ∧ RdB w2 (.slice Av (rRest d e).1.length cv) (rRest d e).1 ∧ Fr1 p w w2 ∧ ∃ A' c', RdrV w2 p A' c' (rRest d e).2.1 (rRest d e).2.2 := by
    by_cases he : e = 0
    · subst he
      have hs : StepFn wa p A c d (.func (.func 38) #[] #[.pointer (some ⟨w.heap.size, 0, none⟩)]) d.length 0 (fun w' => w' = wa) :=
        ⟨⟨_, _, _, rfl, fun args w1 => by kernel_rfl, rest1_any ha b0⟩, by rintro w' rfl; exact ha, fun _ => Nat.le_refl _⟩
      refine (take_any ha hs).mono ?_
      rintro x w2 ⟨w1, v, rfl, rfl, hf, k1, k2⟩
      obtain ⟨⟨A', c', h3⟩, rfl, h4, h5⟩ := k2 rfl
      have e1 : rRest d 0 = (d, [], 0) := by unfold rRest; rw [if_neg (by simp)]
      rw [e1]
      rw [List.take_length] at h4
      rw [List.drop_length] at h3
      exact ⟨A, c, rfl, h4, (Fr1.of0 hfa).trans hf, A', c', h3⟩
    · have e1 : rRest d e = ([], d, e) := by unfold rRest; rw [if_pos he]
      refine (take_err ha he _).mono ?_
      rintro x w2 ⟨rfl, rfl⟩
      rw [e1]
      exact ⟨none, 0, rfl, RdB.nil _, Fr1.of0 hfa, A, c, ha⟩
  have hle : (rRest d e).1.length ≤ d.length := by unfold rRest; split <;> simp
  have HT := Lib.hid hT
  obtain ⟨R, hR⟩ : ∃ R, R = rRest d e := ⟨_, rfl⟩
  rw [← hR] at HT hle ⊢
  clear hT b0 ha hfa h hR
  subst hwa
  go_enter Try.func27, Try.ntmps27
  go_wp2_with (first | (go_at_call 33; refine (HT.out).mono ?_; rintro x w2 ⟨Av, cv, rfl, hrd, hf, hA⟩; have F := Lib.hid hf; have HA := Lib.hid hA; have HC := Lib.hid (bytesClone_any hrd (by omega)); clear hf hA hrd) | (go_at_call 31; refine (HC.out).mono ?_; rintro x w3 ⟨v3, rfl, hown, hf3⟩; obtain ⟨A3, c3, rfl, -, -, -⟩ := own_form hown))
  go_ret
  obtain ⟨A', c', h3⟩ := HA.out
  exact ⟨_, rfl, own_base hown (F.out).size, (F.out).then0 hf3, A', c', h3.fr0 hf3⟩

set_option maxHeartbeats 400000 in
theorem rleft_any {p : Nat} {A : Option Addr} {c : Nat} {d : List UInt8} {e : Int} {w : World} (h : RdrV w p A c d e) :
    Calls Try.prog 15 #[.pointer (some ⟨p, 0, none⟩)] w fun x w' => x = .returned (.int .i64 (d.length : Nat)) ∧ w' = w := by
  have c0 : w.cell? ⟨p, 0, none⟩ = some (.slice A d.length c) := h.blk.cell 0 rfl
  clear h
  go_enter Try.func15, Try.ntmps15
  go_wp2_with fail
  go_ret
  exact ⟨rfl, rfl⟩
set_option maxHeartbeats 400000 in
theorem rerr_any {p : Nat} {A : Option Addr} {c : Nat} {d : List UInt8} {e : Int} {w : World} (h : RdrV w p A c d e) :
    Calls Try.prog 21 #[.pointer (some ⟨p, 0, none⟩)] w fun x w' => x = .returned (.int .i64 e) ∧ w' = w := by
  have c0 : w.cell? ⟨p, 1, none⟩ = some (.int .i64 e) := h.blk.cell 1 rfl
  clear h
  go_enter Try.func21, Try.ntmps21
  go_wp2_with fail
  go_ret
  exact ⟨rfl, rfl⟩

def rEnd (d : List UInt8) (e : Int) : Int := if e = 0 ∧ 0 < d.length then 4 else e

set_option maxHeartbeats 400000 in
theorem rend_any {p : Nat} {A : Option Addr} {c : Nat} {d : List UInt8} {e : Int} {w : World} (h : RdrV w p A c d e) (hn : d.length ≤ 100000000) :
    Calls Try.prog 29 #[.pointer (some ⟨p, 0, none⟩)] w fun x w' => x = .returned (.int .i64 (rEnd d e)) ∧ w' = w := by
  have hE := Lib.hid (rerr_any h)
  have hL := Lib.hid (rleft_any h)
  clear h
  by_cases he : e = 0
  · have b0 : (e == 0) = true := by simpa using he
    by_cases hl : 0 < d.length
    · have hS := Lib.hid (show rEnd d e = 4 by unfold rEnd; rw [if_pos ⟨he, hl⟩])
      have b1 : decide (0 < (d.length : Int)) = true := by simp; omega
      have b2 : decide (0 < d.length) = true := by simpa using hl
      clear he hl
      go_enter Try.func29, Try.ntmps29
      go_wp2_with (first | (go_at_call 21; refine (hE.out).mono ?_; rintro x w2 ⟨rfl, rfl⟩) | (go_at_call 15; refine (hL.out).mono ?_; rintro x w2 ⟨rfl, rfl⟩))
      go_ret
      rw [hS.out]
      exact ⟨rfl, rfl⟩
    · have hS := Lib.hid (show rEnd d e = e by unfold rEnd; exact if_neg (fun h => hl h.2))
      have b1 : decide (0 < (d.length : Int)) = false := by simpa using hl
      have b2 : decide (0 < d.length) = false := by simpa using hl
      clear he hl
      go_enter Try.func29, Try.ntmps29
      go_wp2_with (first | (go_at_call 21; refine (hE.out).mono ?_; rintro x w2 ⟨rfl, rfl⟩) | (go_at_call 15; refine (hL.out).mono ?_; rintro x w2 ⟨rfl, rfl⟩))
      go_ret
      rw [hS.out]
      exact ⟨rfl, rfl⟩
  · have b0 : (e == 0) = false := by simpa using he
    have hS := Lib.hid (show rEnd d e = e by unfold rEnd; exact if_neg (fun h => he h.1))
    clear he
    go_enter Try.func29, Try.ntmps29
    go_wp2_with (first | (go_at_call 21; refine (hE.out).mono ?_; rintro x w2 ⟨rfl, rfl⟩) | (go_at_call 15; refine (hL.out).mono ?_; rintro x w2 ⟨rfl, rfl⟩))
    go_ret
    rw [hS.out]
    exact ⟨rfl, rfl⟩

set_option maxHeartbeats 400000 in
theorem nilNum_any {size : Int} (w : World) :
    Calls Try.prog 14 #[.pointer none] w fun x w' => x = .returned (.int .u64 0) ∧ Fr0 w w' := by
  go_enter Try.func14, Try.ntmps14
  go_wp2_with (first | (go_at_call 33; refine (take_nil _ _).mono ?_; rintro x w2 ⟨rfl, rfl⟩) | (go_at_call 32; refine (number_any (RdB.nil _) (by simp)).mono ?_; rintro x w3 ⟨rfl, rfl⟩))
  go_ret
  exact ⟨rfl, Fr0.refl _⟩

set_option maxHeartbeats 400000 in
theorem nilFixed_any {size : Int} (w : World) :
    Calls Try.prog 23 #[.pointer none, .int .i64 size] w fun x w' => x = .returned (.int .u64 0) ∧ Fr0 w w' := by
  go_enter Try.func23, Try.ntmps23
  go_wp2_with (go_at_call 33; refine (take_nil _ _).mono ?_; rintro x w2 ⟨rfl, rfl⟩)
  go_loopw [5, 12] (fun v5 v12 wr => v5 = .int .u64 0 ∧ v12 = .int .i64 0 ∧ Fr0 w wr) (fun _ _ _ => 0)
  case atStart => exact ⟨rfl, rfl, ((Fr0.refl w).alloc _).alloc _⟩
  case round =>
  obtain ⟨rfl, rfl, hf⟩ := hrel
  go_wp2_with fail
  go_ret
  exact ⟨rfl, hf⟩

set_option maxHeartbeats 400000 in
theorem nilText_any {size : Int} (w : World) :
    Calls Try.prog 22 #[.pointer none, .int .i64 size] w fun x w' => ∃ v, x = .returned v ∧ w'.ownsRow w.heap.size 5 1 v 0 (byts []) ∧ Fr0 w w' := by
  go_enter Try.func22, Try.ntmps22
  go_wp2_with (first | (go_at_call 33; refine (take_nil _ _).mono ?_; rintro x w2 ⟨rfl, rfl⟩) | (go_at_call 31; refine (bytesClone_any (RdB.nil _) (by simp)).mono ?_; rintro x w3 ⟨v3, rfl, hown, hf3⟩; obtain ⟨A3, c3, rfl, -, -, h0⟩ := own_form hown))
  go_ret
  exact ⟨_, rfl, own_base hown (by simp; omega), Fr0.trans ((((Fr0.refl w).alloc _).alloc _).alloc _) hf3⟩

set_option maxHeartbeats 400000 in
theorem nilRest_any {size : Int} (w : World) :
    Calls Try.prog 27 #[.pointer none] w fun x w' => ∃ v, x = .returned v ∧ w'.ownsRow w.heap.size 5 1 v 0 (byts []) ∧ Fr0 w w' := by
  go_enter Try.func27, Try.ntmps27
  go_wp2_with (first | (go_at_call 33; refine (take_nil _ _).mono ?_; rintro x w2 ⟨rfl, rfl⟩) | (go_at_call 31; refine (bytesClone_any (RdB.nil _) (by simp)).mono ?_; rintro x w3 ⟨v3, rfl, hown, hf3⟩; obtain ⟨A3, c3, rfl, -, -, h0⟩ := own_form hown))
  go_ret
  exact ⟨_, rfl, own_base hown (by simp), Fr0.trans ((Fr0.refl w).alloc _) hf3⟩

set_option maxHeartbeats 400000 in
theorem nilLeft_any {size : Int} (w : World) :
    Calls Try.prog 15 #[.pointer none] w fun x w' => x = .returned (.int .i64 0) ∧ w' = w := by
  go_enter Try.func15, Try.ntmps15
  go_wp2_with fail
  go_ret
  exact ⟨rfl, rfl⟩

set_option maxHeartbeats 400000 in
theorem nilErr_any {size : Int} (w : World) :
    Calls Try.prog 21 #[.pointer none] w fun x w' => x = .returned (.int .i64 0) ∧ w' = w := by
  go_enter Try.func21, Try.ntmps21
  go_wp2_with fail
  go_ret
  exact ⟨rfl, rfl⟩

set_option maxHeartbeats 400000 in
theorem nilEnd_any {size : Int} (w : World) :
    Calls Try.prog 29 #[.pointer none] w fun x w' => x = .returned (.int .i64 0) ∧ Fr0 w w' := by
  go_enter Try.func29, Try.ntmps29
  go_wp2_with (first | (go_at_call 21; refine (nilErr_any (size := 0) _).mono ?_; rintro x w2 ⟨rfl, rfl⟩) | (go_at_call 15; refine (nilLeft_any (size := 0) _).mono ?_; rintro x w3 ⟨rfl, rfl⟩))
  go_ret
  exact ⟨rfl, Fr0.refl _⟩
end Go.Proofs.Ythgmimeheeajgaa
