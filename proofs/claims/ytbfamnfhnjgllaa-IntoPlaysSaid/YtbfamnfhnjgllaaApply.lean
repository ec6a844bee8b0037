/- The reference's Apply. Conditions stand in the statements. -/
import Derived.Test.YtbfamnfhnjgllaaInto
namespace Go.Proofs.Ytbfamnfhnjgllaa
open Go.RowKit

def gt : ByteArray := ⟨#[62]⟩
def applyF (s : ByteArray) (d : List UInt8) : ByteArray × Int :=
  if d.length < s.size + 1 then (⟨#[]⟩, 4) else
  if str (d.take (s.size + 1)) ≠ s ++ gt then (⟨#[]⟩, 4) else
  if str (d.drop (s.size + 1)) = ⟨#[102, 117, 108, 108]⟩ then (⟨#[]⟩, 5) else (str (d.drop (s.size + 1)), 0)

set_option maxHeartbeats 400000 in
theorem apply_fn : AppFn (.func (.func 13) #[] #[]) applyF := by
  refine ⟨_, rfl, fun args w1 => by kernel_rfl, fun s dv d w hs hd h => ?_⟩
  obtain ⟨A, c, rfl, hnc, hcm, hA⟩ := h.form
  have hsz : ¬ 9223372036854775807 < s.size + 1 := by omega
  by_cases h3 : d.length < s.size + 1
  · have hr : applyF s d = (⟨#[]⟩, 4) := by unfold applyF; rw [if_pos h3]
    have HR := Lib.hid hr
    clear hr
    go_enter Try.func13, Try.ntmps13
    go_wp2
    go_ret2
    exact ⟨by rw [HR.out]; rfl, Fr0.refl _⟩
  · have ht : RdB w (.slice A (s.size + 1) c) (d.take (s.size + 1)) := RdB.take h (by omega)
    have htl : (d.take (s.size + 1)).length = s.size + 1 := by rw [List.length_take]; omega
    have hc1 := conv_bytes (P := Try.prog) w 26 9 5 Try.underlying26 Try.underlying5 Try.underlying9 (d := d.take (s.size + 1)) (A := A) (c := c) (by rw [htl]; exact ht)
    rw [htl] at hc1
    have hd3 : decide ((d.length : Int) < (s.size : Int) + 1) = false := by simp; omega
    have hk : (0 : Int) ≤ (s.size : Int) + 1 ∧ (s.size : Int) + 1 ≤ (c : Int) := by omega
    obtain ⟨A', hsl, hr2, -⟩ := slice_from (P := Try.prog) (T := 26) (e := 5) Try.underlying26 (fun _ => by kernel_rfl) (k := s.size + 1) h (by omega) ((s.size : Int) + 1) (by omega)
    have hdl : (d.drop (s.size + 1)).length = d.length - (s.size + 1) := List.length_drop
    have hc2 := conv_bytes (P := Try.prog) w 26 9 5 Try.underlying26 Try.underlying5 Try.underlying9 (d := d.drop (s.size + 1)) (A := A') (c := c - (s.size + 1)) (by rw [hdl]; exact hr2)
    rw [hdl] at hc2
    obtain ⟨T, hT⟩ : ∃ T, T = str (d.take (s.size + 1)) := ⟨_, rfl⟩
    obtain ⟨D, hD⟩ : ∃ D, D = str (d.drop (s.size + 1)) := ⟨_, rfl⟩
    rw [← hT] at hc1
    rw [← hD] at hc2
    have hr : applyF s d = if T ≠ s ++ gt then (⟨#[]⟩, 4) else if D = ⟨#[102, 117, 108, 108]⟩ then (⟨#[]⟩, 5) else (D, 0) := by unfold applyF; rw [if_neg h3, ← hT, ← hD]
    unfold gt at hr
    clear htl ht hr2 hdl h hT hD
    by_cases hp : T = s ++ ⟨#[62]⟩
    · rw [if_neg (by simpa using hp)] at hr
      have hpb : (!T.toList == (s ++ ⟨#[62]⟩ : ByteArray).toList) = false := by rw [toList_beq_true hp]; rfl
      by_cases hf : D = ⟨#[102, 117, 108, 108]⟩
      · rw [if_pos hf] at hr
        have HR := Lib.hid hr
        subst hf
        clear hr hp
        go_enter Try.func13, Try.ntmps13
        go_wp2
        go_ret2
        exact ⟨by rw [HR.out]; rfl, Fr0.refl _⟩
      · rw [if_neg hf] at hr
        have hfb : (D.toList == [102, 117, 108, 108]) = false := by have := toList_beq_false hf; rwa [ByteArray.toList_eq ⟨#[102, 117, 108, 108]⟩] at this
        have HR := Lib.hid hr
        clear hr hp hf
        go_enter Try.func13, Try.ntmps13
        go_wp2
        go_ret2
        exact ⟨by rw [HR.out]; rfl, Fr0.refl _⟩
    · rw [if_pos (by simpa using hp)] at hr
      have hpb : (!T.toList == (s ++ ⟨#[62]⟩ : ByteArray).toList) = true := by rw [toList_beq_false hp]; rfl
      have HR := Lib.hid hr
      clear hr hp
      go_enter Try.func13, Try.ntmps13
      go_wp2
      go_ret2
      exact ⟨by rw [HR.out]; rfl, Fr0.refl _⟩

theorem apply_call (s : ByteArray) (dv : Value) (d : List UInt8) (w : World) (hs : s.size ≤ 1000000) (hd : d.length ≤ 1000000) (h : RdB w dv d) :
    Calls Try.prog 13 #[.string s, dv] w fun e w2 => e = .returned (.tuple #[.string (applyF s d).1, .int .i64 (applyF s d).2]) ∧ Fr0 w w2 := by
  obtain ⟨fn, hfn, _, happ⟩ := apply_fn
  injection hfn with hfn
  injection hfn with hfn
  subst hfn
  exact happ s dv d w hs hd h
end Go.Proofs.Ytbfamnfhnjgllaa
