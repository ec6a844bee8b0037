/- WireNone: a reader that is not there, or that Open did not make, is as one over no bytes: the law returns true for every size and bound. No condition. -/
import Derived.Test.YthgmimeheeajgaaWireKnown
import Derived.Test.YthgmimeheeajgaaWLits
namespace Go.Proofs.Ythgmimeheeajgaa
open Go.RowKit

set_option maxHeartbeats 1000000 in
set_option maxRecDepth 100000 in
theorem wireNone_any (size most : Int) (h1 : -9223372036854775808 ≤ size ∧ size ≤ 9223372036854775807) (h2 : -9223372036854775808 ≤ most ∧ most ≤ 9223372036854775807) (w : World) :
    Calls Try.prog 9 #[.int .i64 size, .int .i64 most] w fun e w' => e = .returned (.bool true) ∧ Fr0 w w' := by
  have hb := Blk.new w #[.slice none 0 0, .int .i64 0] 50
  have hr : RdrV (w.alloc (.cells #[.slice none 0 0, .int .i64 0] 50)) w.heap.size none 0 [] 0 := ⟨hb, RdB.nil _, TyB.nil _ _⟩
  have R := Lib.hid hr
  have F := Lib.hid ((Fr0.refl w).alloc (.cells #[.slice none 0 0, .int .i64 0] 50))
  clear hb hr
  go_enter Try.func9, Try.ntmps9
  go_wp2_with (first
    | (have _q := Z; go_at_call 15; refine (rleft_any R.out).mono ?_; rintro e w2 ⟨rfl, rfl⟩)
    | (have _q := Z; go_at_call 29; refine (rend_any R.out (by decide)).mono ?_; rintro e w2 ⟨he, hw⟩; rw [show rEnd [] 0 = 0 from by decide] at he; subst he; subst hw)
    | (have _q := Z; go_at_call 27; refine (rrest_any R.out (by decide)).mono ?_; rintro e w2 ⟨v, rfl, hown, hf, A', c', hr⟩; rw [show rRest [] 0 = ([], [], 0) from by decide] at hown hr; obtain ⟨A3, c3, rfl, -, -⟩ := own_textN (n := 0) rfl hown; replace F := Lib.hid ((F.out).new hf (Nat.le_refl _)); replace R := Lib.hid hr; clear hf hown hr)
    | (have _q := Z; go_at_call 14; refine (rnum_any R.out (by decide)).mono ?_; rintro e w2 ⟨he, hf, A', c', hr⟩; rw [show rNum [] 0 = (0, [], 4) from by decide] at he hr; subst he; replace F := Lib.hid ((F.out).new hf (Nat.le_refl _)); have R4 := Lib.hid hr; clear R hf hr)
    | (have _q := Z; go_at_call 21; refine (rerr_any R4.out).mono ?_; rintro e w2 ⟨rfl, rfl⟩)
    | (have _q := Z; go_at_call 12; refine (known_any _).mono ?_; rintro e w2 ⟨rfl, hf⟩; replace F := Lib.hid ((F.out).trans hf); clear hf)
    | (go_at_call 14; refine (nilNum_any (size := 0) _).mono ?_; rintro e w2 ⟨rfl, hf⟩; replace F := Lib.hid ((F.out).trans hf); replace R := Lib.hid ((R.out).fr0 hf); clear hf)
    | (go_at_call 23; refine (nilFixed_any (size := size) _).mono ?_; rintro e w2 ⟨rfl, hf⟩; replace F := Lib.hid ((F.out).trans hf); replace R := Lib.hid ((R.out).fr0 hf); clear hf)
    | (go_at_call 22; refine (nilText_any (size := most) _).mono ?_; rintro e w2 ⟨v, rfl, hown, hf⟩; obtain ⟨A1, c1, rfl, -, -⟩ := own_textN (n := 0) rfl hown; replace F := Lib.hid ((F.out).trans hf); replace R := Lib.hid ((R.out).fr0 hf); clear hf hown)
    | (go_at_call 27; refine (nilRest_any (size := 0) _).mono ?_; rintro e w2 ⟨v, rfl, hown, hf⟩; obtain ⟨A2, c2, rfl, -, -⟩ := own_textN (n := 0) rfl hown; replace F := Lib.hid ((F.out).trans hf); replace R := Lib.hid ((R.out).fr0 hf); clear hf hown)
    | (go_at_call 15; refine (nilLeft_any (size := 0) _).mono ?_; rintro e w2 ⟨rfl, rfl⟩)
    | (go_at_call 21; refine (nilErr_any (size := 0) _).mono ?_; rintro e w2 ⟨rfl, rfl⟩; have Z := Lib.hid True.intro)
    | (go_at_call 29; refine (nilEnd_any (size := 0) _).mono ?_; rintro e w2 ⟨rfl, hf⟩; replace F := Lib.hid ((F.out).trans hf); replace R := Lib.hid ((R.out).fr0 hf); clear hf))
  go_ret
  exact ⟨rfl, F.out⟩

namespace WireNone
open Go.ChangeShapes Go.WideShapes Go.ChangeAt
open Go.ChangeMaps (open_string shut_string)

theorem own : ownKnob Try.prog.godebug = none := by kernel_rfl
theorem laidOut : laidOutB Try.prog = true := by kernel_rfl

set_option maxRecDepth 100000 in
theorem lifted (os : Os) (started : os.Started) (H : Type) (enc : TypeId × Value → H) :
    ReturnsInHanded {} Try.checked os 9 .any (Rows.wireNoneSpec.pre6 enc Try.prog Try.f9 Rows.wireNoneRow.domain false) (Rows.wireNoneSpec.post enc Try.prog Try.f9 false true false false) := by
  refine returnsInHanded_of_change (C := Try.checked) own started (by kernel_rfl) Try.func9
    (ChangeSpec.witness6 (enc := enc) (C := Try.checked) false ⟨#[], #[.int .i64 0, .int .i64 0], []⟩ 8 (by kernel_rfl) (by kernel_rfl) (by kernel_rfl) (by kernel_rfl)) ?_
  intro W base args ds gs before hval0 hW hcnd _
  have hval : ∀ (j : Nat) t v, Try.f9.params[j]? = some t → args[j]? = some v → Value.okWide Try.prog W .any base t v := hval0
  have hW' := hW
  obtain ⟨p, q, hA0, hV, rfl, hfz, hnd⟩ := hW
  have hA : DataW.TrodAll enc Try.prog W 0 (fun _ => true) true Try.f9.params.toList args.toList ds p := hA0
  rw [Try.params9] at hA hval
  obtain ⟨v0, vs0, d0', ds0, p0, q0, hargs, rfl, rfl, h0, r0⟩ := trodAll_cons hA
  obtain ⟨v1, vs1, d1', ds1, p1, q1, rfl, rfl, rfl, h1, r1⟩ := trodAll_cons r0
  obtain ⟨rfl, rfl, rfl⟩ := trodAll_nil r1
  obtain rfl : args = #[v0, v1] := by cases args; simp_all
  obtain ⟨rfl, rfl⟩ := trodVars_none hV
  obtain ⟨n0, rfl, rfl, rfl, hn0⟩ := open_int Try.underlying3 (hval 0 3 v0 rfl rfl) h0
  have hm0 := lit_i64 hn0
  obtain ⟨n1, rfl, rfl, rfl, hn1⟩ := open_int Try.underlying3 (hval 1 3 v1 rfl rfl) h1
  have hm1 := lit_i64 hn1
  clear hA0 hval0
  refine (wireNone_any n0 n1 hm0 hm1 W).mono fun e W' ⟨he, hfr⟩ => ?_
  have bel : Below W.heap.size W W' := Fr0.below hfr
  subst he
  exact ⟨_, rfl, _, _, _, [], _, [], hW', trodAll_mk1 (shut_bool Try.underlying4 _), (trodAll_cons_mk (shut_int Try.underlying3 hn0) (trodAll_cons_mk (shut_int Try.underlying3 hn1) trodAll_mk0)), rfl, bel.frame _, fun h => by cases h⟩

theorem over : Rows.wireNoneRow.holds Try.pinned (OpenSpec.ofChange Rows.wireNoneSpec) :=
  OpenClaim.holds_of_wide 9 Try.f9 rfl rfl rfl rfl rfl rfl rfl ⟨rfl, rfl, rfl, rfl, rfl⟩ rfl rfl rfl rfl rfl (by kernel_rfl) Try.func9 (by kernel_rfl)
    (of_decide_eq_true (by kernel_rfl)) (by unfold Func.isWrapper; first | (rw [if_pos (by decide +kernel)]; kernel_rfl) | (rw [if_neg (by decide +kernel)]; exact ⟨rfl, rfl⟩))
    (fun os started H enc _ => lifted os started H enc)

theorem proved : Rows.WireNoneSaid := over
#print axioms proved
end WireNone
end Go.Proofs.Ythgmimeheeajgaa
