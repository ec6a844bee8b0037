/- The law IntoStays. Conditions stand in the statements. -/
import Derived.Test.YtbfamnfhnjgllaaHear
import Derived.Test.YtbfamnfhnjgllaaHeld
namespace Go.Proofs.Ytbfamnfhnjgllaa
open Go.RowKit

def staysF (s : ByteArray) (d : List UInt8) : ByteArray × Int := if 3 < d.length ∧ d.headD 0 = 33 then (⟨#[]⟩, 4) else (s ++ str d, 0)

set_option maxHeartbeats 400000 in
theorem stays_fn : AppFn (.func (.func 9) #[] #[]) staysF := by
  refine ⟨_, rfl, fun args w1 => by kernel_rfl, fun s dv d w hs hd h => ?_⟩
  obtain ⟨A, c, rfl, hnc, hcm, hA⟩ := h.form
  have hcv := conv_bytes (P := Try.prog) w 26 9 5 Try.underlying26 Try.underlying5 Try.underlying9 h
  have hsz : ¬ 9223372036854775807 < s.size + (str d).size := by rw [str_size]; omega
  by_cases h3 : 3 < d.length
  · obtain ⟨g, off, c', hv, hic, hg, hc⟩ := RdB.cell (d := d) (i := 0) h (by omega)
    injection hv with hA' _ hcc
    subst hA' hcc
    have hh : d.headD 0 = d[0]'(by omega) := by cases d with | nil => simp at h3 | cons x r => rfl
    obtain ⟨x, hx⟩ : ∃ x, x = d[0]'(by omega) := ⟨_, rfl⟩
    rw [← hx] at hc hh
    simp only [Nat.add_zero] at hc
    clear hx
    by_cases h33 : x = 33
    · have hr : staysF s d = (⟨#[]⟩, 4) := by unfold staysF; rw [if_pos ⟨h3, by rw [hh, h33]⟩]
      have HR := Lib.hid hr
      have hb : (((x.toNat : Nat) : Int) == 33) = true := by rw [h33]; rfl
      clear hr hh h33 h
      go_enter Try.func9, Try.ntmps9
      go_wp2
      go_ret2
      exact ⟨by rw [HR.out]; rfl, Fr0.refl _⟩
    · have hr : staysF s d = (s ++ str d, 0) := by unfold staysF; rw [if_neg (fun h => h33 (hh ▸ h.2))]
      have HR := Lib.hid hr
      have hb : (((x.toNat : Nat) : Int) == 33) = false := by
        rw [beq_eq_false_iff_ne]; intro e; apply h33; rw [← UInt8.toNat_inj]; show x.toNat = 33; omega
      clear hr hh h33 h
      go_enter Try.func9, Try.ntmps9
      go_wp2
      go_ret2
      exact ⟨by rw [HR.out]; rfl, Fr0.refl _⟩
  · have hr : staysF s d = (s ++ str d, 0) := by unfold staysF; rw [if_neg (by omega)]
    have HR := Lib.hid hr
    clear hr
    go_enter Try.func9, Try.ntmps9
    go_wp2
    go_ret2
    exact ⟨by rw [HR.out]; rfl, Fr0.refl _⟩
end Go.Proofs.Ytbfamnfhnjgllaa
