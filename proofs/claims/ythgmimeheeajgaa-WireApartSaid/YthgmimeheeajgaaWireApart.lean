/- WireApart: no number's form is the beginning of another one's; so forms one behind the other are read in one way alone: the law returns true for every two numbers. No condition. -/
import Derived.Test.YthgmimeheeajgaaWireKnown
import Derived.Test.YthgmimeheeajgaaWireBackLaw
import Derived.Test.YthgmimeheeajgaaWLits
import Derived.Test.YthgmimeheeajgaaWApp
import Derived.Deep.RegionHeldLaw
import Derived.Deep.DeepCutAuto
namespace Go.Proofs.Ythgmimeheeajgaa
open Go.RowKit

theorem form_apart {a b : Nat} (ha : a < 18446744073709551616) (hb : b < 18446744073709551616) (h : (form b).take (form a).length = form a) : a = b := by
  have e : form b = form a ++ (form b).drop (form a).length := by
    have := List.take_append_drop (form a).length (form b)
    rw [h] at this
    exact this.symm
  have h1 := rd_form a ha ((form b).drop (form a).length)
  rw [← e] at h1
  have h2 := rd_form b hb []
  rw [List.append_nil, h1] at h2
  exact congrArg Prod.fst h2
theorem strl' (d : List UInt8) : (str d).toList = d := by rw [ByteArray.toList_eq]; exact str_toList d

set_option maxHeartbeats 4000000 in
set_option maxRecDepth 100000 in
theorem wireApart_any (a b : Nat) (ha : a < 18446744073709551616) (hb : b < 18446744073709551616) (w : World) :
    Calls Try.prog 4 #[.int .u64 (a : Int), .int .u64 (b : Int)] w fun e w' => e = .returned (.bool true) ∧ Fr0 w w' := by
  have HA := Lib.hid (wireNum_any a ha)
  have HB := Lib.hid (wireNum_any b hb)
  have la := form_len_le ha
  have lb := form_len_le hb
  have pa := form_pos a
  have pb := form_pos b
  have hap := Lib.hid (fun h => form_apart ha hb h)
  have E1 := Lib.hid (rNum_form a ha (form b))
  have hE2 := rNum_form b hb []
  rw [List.append_nil] at hE2
  have E2 := Lib.hid hE2
  clear hE2
  obtain ⟨fa, hfa⟩ : ∃ fa, fa = form a := ⟨_, rfl⟩
  obtain ⟨fb, hfb⟩ : ∃ fb, fb = form b := ⟨_, rfl⟩
  rw [← hfa] at HA la pa E1 hap
  rw [← hfb] at HB lb pb E1 E2 hap
  clear hfa hfb
  have ta := strl' fa
  have tt := strl' (fb.take fa.length)
  go_enter Try.func4, Try.ntmps4
  go_wp2_with (first
    | (have _q := O1; go_at_call 11; refine (HB.out _).mono ?_; rintro e w2 ⟨v, rfl, hown, hf⟩; obtain ⟨A2, c2, rfl, -, -, -⟩ := own_form hown; have O2 := Lib.hid (own_base hown (F.out).size); replace O1 := Lib.hid (own_fr (O1.out) hf (fun _ _ h => h)); replace F := Lib.hid ((F.out).trans hf); clear hf hown)
    | (go_at_call 11; refine (HA.out _).mono ?_; rintro e w1 ⟨v, rfl, hown, hf⟩; obtain ⟨A1, c1, rfl, -, -, -⟩ := own_form hown; have F := Lib.hid hf; have O1 := Lib.hid hown; clear hown hf))
  go_cut [43] (fun s43 wx => s43 = .bool false ∧ wx.ownsRow w.heap.size 5 1 (.slice A1 fa.length c1) fa.length (byts fa) ∧ wx.ownsRow w.heap.size 5 1 (.slice A2 fb.length c2) fb.length (byts fb) ∧ Fr0 w wx)
  case first =>
    have z1 : ((fa.length : Int) == 0) = false := by simp; intro h; subst h; simp at pa
    have z2 : ((fb.length : Int) == 0) = false := by simp; intro h; subst h; simp at pb
    by_cases hab : a = b
    · have z3 : ((a : Int) != (b : Int)) = false := by simp; omega
      clear hab
      go_quiet (fail)
      go_wp2_with fail
      go_meet
      exact ⟨rfl, own_fr O1.out (Fr0.drewN (Fr0.refl _) _) (fun _ _ h => h), own_fr O2.out (Fr0.drewN (Fr0.refl _) _) (fun _ _ h => h), (F.out).drewN _⟩
    · have z3 : ((a : Int) != (b : Int)) = true := by simp; omega
      have hne : (fb.take fa.length == fa) = false := by rw [beq_eq_false_iff_ne]; exact fun h => hab (hap.out h)
      clear hab
      by_cases hle : fa.length ≤ fb.length
      · have z4 : decide ((fa.length : Int) ≤ (fb.length : Int)) = true := by simp; omega
        have z5 : decide (fa.length ≤ fb.length) = true := by simpa using hle
        have hc2 : fb.length ≤ c2 := by obtain ⟨A', c', hv, h1, _⟩ := own_form O2.out; injection hv with _ _ hc; omega
        have hsl := slice_to (P := Try.prog) (T := 23) (e := 5) Try.underlying23 (fun _ => by kernel_rfl) (k := fa.length) (A := A2) (n := fb.length) (c := c2) (Nat.le_trans hle hc2)
        have hcv1 := conv_own (RdB.of_own O1.out)
        have hrt : RdB w2 (.slice A2 fa.length c2) (fb.take fa.length) := rdb_of (by have := Rd.take (Rd.of_own O2.out) hle rfl; rw [byts_take] at this; exact this)
        have hcv2 := conv_ownN (n := fa.length) (by rw [List.length_take]; omega) hrt
        have HRT := Lib.hid hrt
        clear hrt hc2 hcv1 hcv2
        go_region_held_law (fun w' => Fr0 w w' ∧ w'.ownsRow w.heap.size 5 1 (.slice A1 fa.length c1) fa.length (byts fa) ∧ w'.ownsRow w.heap.size 5 1 (.slice A2 fb.length c2) fb.length (byts fb) ∧ (convert 23 9 (.slice A1 fa.length c1)).run Try.prog w' = .ok (.string (str fa)) w' ∧ (convert 23 9 (.slice A2 fa.length c2)).run Try.prog w' = .ok (.string (str (fb.take fa.length))) w') (first | exact ⟨(F.out).drew, own_fr O1.out ((Fr0.refl _).drew) (fun _ _ h => h), own_fr O2.out ((Fr0.refl _).drew) (fun _ _ h => h), conv_own (RdB.of_own (own_fr O1.out ((Fr0.refl _).drew) (fun _ _ h => h))), conv_ownN (n := fa.length) (by rw [List.length_take]; omega) ((HRT.out).fr0 ((Fr0.refl _).drew))⟩) (fail)
        all_goals (go_wp2_with fail; go_meet; exact ⟨rfl, own_fr O1.out ((Fr0.refl _).drew) (fun _ _ h => h), own_fr O2.out ((Fr0.refl _).drew) (fun _ _ h => h), (F.out).drew⟩)
      · have z4 : decide ((fa.length : Int) ≤ (fb.length : Int)) = false := by simp; omega
        have z5 : decide (fa.length ≤ fb.length) = false := by simpa using hle
        clear hle
        go_quiet (fail)
        go_wp2_with fail
        go_meet
        exact ⟨rfl, own_fr O1.out (Fr0.drewN (Fr0.refl _) _) (fun _ _ h => h), own_fr O2.out (Fr0.drewN (Fr0.refl _) _) (fun _ _ h => h), (F.out).drewN _⟩
  case rest =>
    obtain ⟨rfl, ho1, ho2, hf⟩ := hcut
    have O3 := Lib.hid (Rd.of_own ho1)
    have O4 := Lib.hid (Rd.of_own ho2)
    have FW := Lib.hid hf
    clear ho1 ho2 hf O1 O2 F
    go_wp2_with (first
      | (at_builtin; have _q := O; refine app_bytes rfl _ _ rfl F.out O.out (by rfl) ((O4.out).fr0 F.out) (by rfl) (by omega) ?_; intro A c w3 hown hf; replace F := Lib.hid hf; replace O := Lib.hid hown; clear hf hown)
      | (at_builtin; refine app_bytes rfl _ _ rfl (L1 := []) ((Fr0.refl wc).alloc _) (own_empty (heap_alloc_new _ _) (Nat.le_refl _)) (by rfl) ((O3.out).fr0 ((Fr0.refl _).alloc _)) (by rfl) (by omega) ?_; intro A c w3 hown hf; rw [Nat.zero_add, List.nil_append] at hown; have F := Lib.hid hf; have O := Lib.hid hown; clear hf hown)
      | (go_at_call 13; refine (openR_any (rdb_of (Rd.of_own O.out)) (by simp only [List.length_append]; omega)).mono ?_; rintro e w3 ⟨p, A, c, rfl, hr, hf, hp, hp2⟩; have P := Lib.hid (Nat.le_trans (F.out).size hp); replace F := Lib.hid ((F.out).trans hf); have R := Lib.hid hr; clear O hr hf hp hp2)
      | (have _q := T1; go_at_call 14; refine (rnum_any R.out (by omega)).mono ?_; rintro e w4 ⟨he, hf, A', c', hr⟩; rw [E2.out] at he hr; subst he; replace F := Lib.hid ((F.out).new hf P.out); replace R := Lib.hid hr; clear hf hr)
      | (go_at_call 14; refine (rnum_any R.out (by simp only [List.length_append]; omega)).mono ?_; rintro e w4 ⟨he, hf, A', c', hr⟩; rw [E1.out] at he hr; subst he; replace F := Lib.hid ((F.out).new hf P.out); replace R := Lib.hid hr; have T1 := Lib.hid True.intro; clear hf hr)
      | (go_at_call 15; refine (rleft_any R.out).mono ?_; rintro e w4 ⟨rfl, rfl⟩)
      | (go_at_call 12; refine (known_any _).mono ?_; rintro e w5 ⟨rfl, hf⟩; replace F := Lib.hid ((F.out).trans hf); clear hf))
    go_ret
    exact ⟨rfl, (FW.out).trans F.out⟩

namespace WireApart
open Go.ChangeShapes Go.WideShapes Go.ChangeAt
open Go.ChangeMaps (open_string shut_string)

theorem own : ownKnob Try.prog.godebug = none := by kernel_rfl
theorem laidOut : laidOutB Try.prog = true := by kernel_rfl

set_option maxRecDepth 100000 in
theorem lifted (os : Os) (started : os.Started) (H : Type) (enc : TypeId × Value → H) :
    ReturnsInHanded {} Try.checked os 4 .any (Rows.wireApartSpec.pre6 enc Try.prog Try.f4 Rows.wireApartRow.domain false) (Rows.wireApartSpec.post enc Try.prog Try.f4 false true false false) := by
  refine returnsInHanded_of_change (C := Try.checked) own started (by kernel_rfl) Try.func4
    (ChangeSpec.witness6 (enc := enc) (C := Try.checked) false ⟨#[], #[.int .u64 0, .int .u64 0], []⟩ 8 (by kernel_rfl) (by kernel_rfl) (by kernel_rfl) (by kernel_rfl)) ?_
  intro W base args ds gs before hval0 hW hcnd _
  have hval : ∀ (j : Nat) t v, Try.f4.params[j]? = some t → args[j]? = some v → Value.okWide Try.prog W .any base t v := hval0
  have hW' := hW
  obtain ⟨p, q, hA0, hV, rfl, hfz, hnd⟩ := hW
  have hA : DataW.TrodAll enc Try.prog W 0 (fun _ => true) true Try.f4.params.toList args.toList ds p := hA0
  rw [Try.params4] at hA hval
  obtain ⟨v0, vs0, d0', ds0, p0, q0, hargs, rfl, rfl, h0, r0⟩ := trodAll_cons hA
  obtain ⟨v1, vs1, d1', ds1, p1, q1, rfl, rfl, rfl, h1, r1⟩ := trodAll_cons r0
  obtain ⟨rfl, rfl, rfl⟩ := trodAll_nil r1
  obtain rfl : args = #[v0, v1] := by cases args; simp_all
  obtain ⟨rfl, rfl⟩ := trodVars_none hV
  obtain ⟨n0, rfl, rfl, rfl, hn0⟩ := open_int Try.underlying22 (hval 0 22 v0 rfl rfl) h0
  obtain ⟨m0, rfl, hm0⟩ := lit_u64 hn0
  obtain ⟨n1, rfl, rfl, rfl, hn1⟩ := open_int Try.underlying22 (hval 1 22 v1 rfl rfl) h1
  obtain ⟨m1, rfl, hm1⟩ := lit_u64 hn1
  clear hA0 hval0
  refine (wireApart_any m0 m1 hm0 hm1 W).mono fun e W' ⟨he, hfr⟩ => ?_
  have bel : Below W.heap.size W W' := Fr0.below hfr
  subst he
  exact ⟨_, rfl, _, _, _, [], _, [], hW', trodAll_mk1 (shut_bool Try.underlying4 _), (trodAll_cons_mk (shut_int Try.underlying22 hn0) (trodAll_cons_mk (shut_int Try.underlying22 hn1) trodAll_mk0)), rfl, bel.frame _, fun h => by cases h⟩

theorem over : Rows.wireApartRow.holds Try.pinned (OpenSpec.ofChange Rows.wireApartSpec) :=
  OpenClaim.holds_of_wide 4 Try.f4 rfl rfl rfl rfl rfl rfl rfl ⟨rfl, rfl, rfl, rfl, rfl⟩ rfl rfl rfl rfl rfl (by kernel_rfl) Try.func4 (by kernel_rfl)
    (of_decide_eq_true (by kernel_rfl)) (by unfold Func.isWrapper; first | (rw [if_pos (by decide +kernel)]; kernel_rfl) | (rw [if_neg (by decide +kernel)]; exact ⟨rfl, rfl⟩))
    (fun os started H enc _ => lifted os started H enc)

theorem proved : Rows.WireApartSaid := over
#print axioms proved
end WireApart
end Go.Proofs.Ythgmimeheeajgaa
