/- WireFixed: a fixed number's form is read as the number modulo 256 to the power of its size, and has just that size: the law returns true for every number and size. No condition. -/
import Derived.Test.YthgmimeheeajgaaWireKnown
import Derived.Test.YthgmimeheeajgaaWLits
namespace Go.Proofs.Ythgmimeheeajgaa
open Go.RowKit

theorem fixVal_form (n : Nat) : ∀ (k a : Nat), (fixForm n k).foldl (fun n x => n * 256 + x.toNat) a = a * 256 ^ k + n % 256 ^ k
  | 0, a => by simp [fixForm, Nat.mod_one]
  | k + 1, a => by
    rw [fixForm, List.foldl_cons, fixVal_form n k, u8_of _ (Nat.mod_lt _ (by decide)), Nat.mod_pow_succ, Nat.pow_succ, Nat.add_mul, Nat.mul_assoc, Nat.mul_comm 256 (256 ^ k), Nat.mul_comm (n / 256 ^ k % 256)]
    omega
theorem rFixed_form (n k : Nat) (h1 : 1 ≤ k) (h8 : k ≤ 8) (r : List UInt8) : rFixed (fixForm n k ++ r) 0 (k : Int) = (n % 256 ^ k, r, 0) := by
  have hs : fStep (fixForm n k ++ r) (k : Int) = (k, 0) := by
    unfold fStep
    rw [if_neg]
    · simp
    · rw [List.length_append, fixForm_len]; omega
  unfold rFixed
  rw [if_neg (by simp), hs, if_neg (by simp), List.take_left' (fixForm_len n k), List.drop_left' (fixForm_len n k)]
  have := fixVal_form n k 0
  rw [Nat.zero_mul, Nat.zero_add] at this
  rw [fixVal, this]

set_option maxHeartbeats 400000 in
set_option maxRecDepth 100000 in
theorem wireFixedLaw_any (n : Nat) (size : Int) (hn : n < 18446744073709551616) (hm : -9223372036854775808 ≤ size ∧ size ≤ 9223372036854775807) (w : World) :
    Calls Try.prog 7 #[.int .u64 (n : Int), .int .i64 size] w fun e w' => e = .returned (.bool true) ∧ Fr0 w w' := by
  have hF := wireFixed_any n size hn w
  by_cases hb : size < 1 ∨ 8 < size
  · have hl : (fixed n size) = [] := if_pos hb
    rw [hl] at hF
    have HF := Lib.hid hF
    by_cases k0 : size < 1
    · have q0 : decide (size < 1) = true := by simpa using k0
      clear k0 hb hF hl
      go_enter Try.func7, Try.ntmps7
      go_wp2_with (first
        | (go_at_call 16; refine (HF.out).mono ?_; rintro e w1 ⟨v, rfl, hown, hf⟩; obtain ⟨A1, c1, rfl, -, -⟩ := own_textN (n := 0) rfl hown; have F1 := Lib.hid hf; clear hown hf)
        | (go_at_call 12; refine (known_any _).mono ?_; rintro e w2 ⟨rfl, hf⟩; have F2 := Lib.hid hf; clear hf))
      go_ret
      exact ⟨rfl, (F1.out).trans F2.out⟩
    · have q0 : decide (size < 1) = false := by simpa using k0
      have q1 : decide (8 < size) = true := by simp; omega
      clear k0 hb hF hl
      go_enter Try.func7, Try.ntmps7
      go_wp2_with (first
        | (go_at_call 16; refine (HF.out).mono ?_; rintro e w1 ⟨v, rfl, hown, hf⟩; obtain ⟨A1, c1, rfl, -, -⟩ := own_textN (n := 0) rfl hown; have F1 := Lib.hid hf; clear hown hf)
        | (go_at_call 12; refine (known_any _).mono ?_; rintro e w2 ⟨rfl, hf⟩; have F2 := Lib.hid hf; clear hf))
      go_ret
      exact ⟨rfl, (F1.out).trans F2.out⟩
  · obtain ⟨k, rfl⟩ : ∃ k : Nat, size = k := ⟨size.toNat, by omega⟩
    have k1 : 1 ≤ k := by omega
    have k8 : k ≤ 8 := by omega
    rw [show fixed n (k : Int) = fixForm n k from by unfold fixed; rw [if_neg hb]; rfl] at hF
    have HF := Lib.hid hF
    have hR := rFixed_form n k k1 k8 []
    rw [List.append_nil] at hR
    have HR := Lib.hid hR
    have q0 : decide ((k : Int) < 1) = false := by simp; omega
    have q1 : decide (8 < (k : Int)) = false := by simp; omega
    have q2 : ((k : Int) != (k : Int)) = false := by simp
    clear hF hb hR hm
    by_cases k7 : k < 8
    · have q3 : decide ((k : Int) < 8) = true := by simp; omega
      have e4 : IntKind.i64.wrap (8 * (k : Int)) = 8 * (k : Int) := IntWalk.i64_in _ (by omega)
      have e5 : IntKind.u64.wrap (8 * (k : Int)) = 8 * (k : Int) := by show (8 * (k : Int)) % 18446744073709551616 = _; omega
      obtain ⟨q, hq⟩ : ∃ q, q = 256 ^ k := ⟨_, rfl⟩
      have hq1 : 0 < q := by rw [hq]; exact Nat.pow_pos (by decide)
      have hq2 : q < 18446744073709551616 := by
        rw [hq]
        have := Nat.pow_le_pow_right (show 0 < 256 by decide) (show k ≤ 7 by omega)
        omega
      have e6 : IntKind.u64.wrap (2 ^ (8 * k)) = (q : Int) := by
        have e : ((2 : Int) ^ (8 * k)) = (q : Int) := by rw [hq, ← pow8]; simp
        rw [e]
        show (q : Int) % 18446744073709551616 = _
        omega
      have hqi : ¬ (q : Int) = 0 := by omega
      rw [← hq] at HR
      clear hq hq2
      go_enter Try.func7, Try.ntmps7
      go_wp2_with (first
        | (go_at_call 16; refine (HF.out).mono ?_; rintro e w1 ⟨v, rfl, hown, hf⟩; obtain ⟨A1, c1, rfl, hr1, -⟩ := own_textN (n := k) (fixForm_len n k) hown; have F1 := Lib.hid hf; have HO := Lib.hid (openR_any hr1 (by rw [fixForm_len]; omega)); clear hown hf hr1)
        | (go_at_call 13; refine (HO.out).mono ?_; rintro e w2 ⟨p, A, c, rfl, hr, hf, hp, hp2⟩; have F2 := Lib.hid hf; have HP := Lib.hid hp; have HX := Lib.hid (rfixed_any (size := (k : Int)) hr (by rw [fixForm_len]; omega) (by omega)); clear hr hf hp hp2)
        | (go_at_call 23; refine (HX.out).mono ?_; rintro e w3 ⟨he, hf, A', c', hr⟩; rw [HR.out] at he hr; subst he; have F3 := Lib.hid hf; have HL := Lib.hid (rleft_any hr); clear hf hr)
        | (go_at_call 15; refine (HL.out).mono ?_; rintro e w4 ⟨rfl, rfl⟩)
        | (go_at_call 12; refine (known_any _).mono ?_; rintro e w5 ⟨rfl, hf⟩; have F5 := Lib.hid hf; clear hf))
      go_ret
      exact ⟨rfl, Fr0.new F1.out ((Fr1.of0 F2.out).trans (F3.out) |>.then0 F5.out) (Nat.le_trans (F1.out).size HP.out)⟩
    · have q3 : decide ((k : Int) < 8) = false := by simp; omega
      have hk8 : k = 8 := by omega
      have hq : n % 256 ^ k = n := by subst hk8; exact Nat.mod_eq_of_lt (by have : (256 : Nat) ^ 8 = 18446744073709551616 := by decide
                                                                            omega)
      rw [hq] at HR
      clear hq hk8
      go_enter Try.func7, Try.ntmps7
      go_wp2_with (first
        | (go_at_call 16; refine (HF.out).mono ?_; rintro e w1 ⟨v, rfl, hown, hf⟩; obtain ⟨A1, c1, rfl, hr1, -⟩ := own_textN (n := k) (fixForm_len n k) hown; have F1 := Lib.hid hf; have HO := Lib.hid (openR_any hr1 (by rw [fixForm_len]; omega)); clear hown hf hr1)
        | (go_at_call 13; refine (HO.out).mono ?_; rintro e w2 ⟨p, A, c, rfl, hr, hf, hp, hp2⟩; have F2 := Lib.hid hf; have HP := Lib.hid hp; have HX := Lib.hid (rfixed_any (size := (k : Int)) hr (by rw [fixForm_len]; omega) (by omega)); clear hr hf hp hp2)
        | (go_at_call 23; refine (HX.out).mono ?_; rintro e w3 ⟨he, hf, A', c', hr⟩; rw [HR.out] at he hr; subst he; have F3 := Lib.hid hf; have HL := Lib.hid (rleft_any hr); clear hf hr)
        | (go_at_call 15; refine (HL.out).mono ?_; rintro e w4 ⟨rfl, rfl⟩)
        | (go_at_call 12; refine (known_any _).mono ?_; rintro e w5 ⟨rfl, hf⟩; have F5 := Lib.hid hf; clear hf))
      go_ret
      exact ⟨rfl, Fr0.new F1.out ((Fr1.of0 F2.out).trans (F3.out) |>.then0 F5.out) (Nat.le_trans (F1.out).size HP.out)⟩

namespace WireFixed
open Go.ChangeShapes Go.WideShapes Go.ChangeAt
open Go.ChangeMaps (open_string shut_string)

theorem own : ownKnob Try.prog.godebug = none := by kernel_rfl
theorem laidOut : laidOutB Try.prog = true := by kernel_rfl

set_option maxRecDepth 100000 in
theorem lifted (os : Os) (started : os.Started) (H : Type) (enc : TypeId × Value → H) :
    ReturnsInHanded {} Try.checked os 7 .any (Rows.wireFixedSpec.pre6 enc Try.prog Try.f7 Rows.wireFixedRow.domain false) (Rows.wireFixedSpec.post enc Try.prog Try.f7 false true false false) := by
  refine returnsInHanded_of_change (C := Try.checked) own started (by kernel_rfl) Try.func7
    (ChangeSpec.witness6 (enc := enc) (C := Try.checked) false ⟨#[], #[.int .u64 0, .int .i64 0], []⟩ 8 (by kernel_rfl) (by kernel_rfl) (by kernel_rfl) (by kernel_rfl)) ?_
  intro W base args ds gs before hval0 hW hcnd _
  have hval : ∀ (j : Nat) t v, Try.f7.params[j]? = some t → args[j]? = some v → Value.okWide Try.prog W .any base t v := hval0
  have hW' := hW
  obtain ⟨p, q, hA0, hV, rfl, hfz, hnd⟩ := hW
  have hA : DataW.TrodAll enc Try.prog W 0 (fun _ => true) true Try.f7.params.toList args.toList ds p := hA0
  rw [Try.params7] at hA hval
  obtain ⟨v0, vs0, d0', ds0, p0, q0, hargs, rfl, rfl, h0, r0⟩ := trodAll_cons hA
  obtain ⟨v1, vs1, d1', ds1, p1, q1, rfl, rfl, rfl, h1, r1⟩ := trodAll_cons r0
  obtain ⟨rfl, rfl, rfl⟩ := trodAll_nil r1
  obtain rfl : args = #[v0, v1] := by cases args; simp_all
  obtain ⟨rfl, rfl⟩ := trodVars_none hV
  obtain ⟨n0, rfl, rfl, rfl, hn0⟩ := open_int Try.underlying22 (hval 0 22 v0 rfl rfl) h0
  obtain ⟨m0, rfl, hm0⟩ := lit_u64 hn0
  obtain ⟨n1, rfl, rfl, rfl, hn1⟩ := open_int Try.underlying3 (hval 1 3 v1 rfl rfl) h1
  have hm1 := lit_i64 hn1
  clear hA0 hval0
  refine (wireFixedLaw_any m0 n1 hm0 hm1 W).mono fun e W' ⟨he, hfr⟩ => ?_
  have bel : Below W.heap.size W W' := Fr0.below hfr
  subst he
  exact ⟨_, rfl, _, _, _, [], _, [], hW', trodAll_mk1 (shut_bool Try.underlying4 _), (trodAll_cons_mk (shut_int Try.underlying22 hn0) (trodAll_cons_mk (shut_int Try.underlying3 hn1) trodAll_mk0)), rfl, bel.frame _, fun h => by cases h⟩

theorem over : Rows.wireFixedRow.holds Try.pinned (OpenSpec.ofChange Rows.wireFixedSpec) :=
  OpenClaim.holds_of_wide 7 Try.f7 rfl rfl rfl rfl rfl rfl rfl ⟨rfl, rfl, rfl, rfl, rfl⟩ rfl rfl rfl rfl rfl (by kernel_rfl) Try.func7 (by kernel_rfl)
    (of_decide_eq_true (by kernel_rfl)) (by unfold Func.isWrapper; first | (rw [if_pos (by decide +kernel)]; kernel_rfl) | (rw [if_neg (by decide +kernel)]; exact ⟨rfl, rfl⟩))
    (fun os started H enc _ => lifted os started H enc)

theorem proved : Rows.WireFixedSaid := over
#print axioms proved
end WireFixed
end Go.Proofs.Ythgmimeheeajgaa
