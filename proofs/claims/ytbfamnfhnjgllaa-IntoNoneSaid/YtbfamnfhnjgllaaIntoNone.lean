/- IntoNone: a hearer that is not there, that New did not make, or to which nothing is applied, hears nothing: the law returns true for every instruction. No condition. -/
import Derived.Test.YtbfamnfhnjgllaaKnown24
import Derived.Test.YtbfamnfhnjgllaaArgs
namespace Go.Proofs.Ytbfamnfhnjgllaa
open Go.RowKit

/-- No hearer: nil, or a zero one. -/
def NoIn (w : World) (v : Value) : Prop := v = .pointer none ∨ ∃ p, v = .pointer (some ⟨p, 0, none⟩) ∧ Blk w p #[.nilFunc, .slice none 0 0] 48
theorem NoIn.fr0 {w w' : World} {v : Value} (h : NoIn w v) (hf : Fr0 w w') : NoIn w' v := by
  rcases h with rfl | ⟨p, rfl, hb⟩
  · exact .inl rfl
  · exact .inr ⟨p, rfl, hb.fr0 hf⟩

set_option maxHeartbeats 400000 in
theorem there_no {v : Value} {w : World} (h : NoIn w v) : Calls Try.prog 25 #[v] w fun e w' => e = .returned (.bool false) ∧ w = w' := by
  rcases h with rfl | ⟨p, rfl, hb⟩
  · go_enter Try.func25, Try.ntmps25
    go_wp2
    go_ret
    exact ⟨rfl, rfl⟩
  · have h1 : w.cell? ⟨p, 1, none⟩ = some (.slice none 0 0) := hb.cell 1 rfl
    clear hb
    go_enter Try.func25, Try.ntmps25
    go_wp2
    go_ret
    exact ⟨rfl, rfl⟩

theorem hear_no {v : Value} {w : World} (h : NoIn w v) (cs : Array Value) :
    Calls Try.prog 12 #[v, .agg cs] w fun e w' => e = .returned (.tuple #[.bool false, .int .i64 1]) ∧ Fr0 w w' := by
  have hf := (Fr0.refl w).alloc (Obj.cells cs 30)
  have hT := Lib.hid (there_no (h.fr0 hf))
  have Hf := Lib.hid hf
  clear hf h
  go_enter Try.func12, Try.ntmps12
  go_wp2_with (go_at_call 25; refine (hT.out).mono ?_; rintro e w' ⟨rfl, rfl⟩)
  go_ret2
  exact ⟨rfl, Hf.out⟩

theorem newest_no {v : Value} {w : World} (h : NoIn w v) : Calls Try.prog 11 #[v] w fun e w' => e = .returned (.tuple #[.int .i64 0, .string ⟨#[]⟩]) ∧ w = w' := by
  have hT := Lib.hid (there_no h)
  clear h
  go_enter Try.func11, Try.ntmps11
  go_wp2_with (go_at_call 25; refine (hT.out).mono ?_; rintro e w' ⟨rfl, rfl⟩)
  go_ret2
  exact ⟨rfl, rfl⟩

theorem held_no {v : Value} {w : World} (h : NoIn w v) : Calls Try.prog 10 #[v] w fun e w' => e = .returned (.slice none 0 0) ∧ w = w' := by
  have hT := Lib.hid (there_no h)
  clear h
  go_enter Try.func10, Try.ntmps10
  go_wp2_with (go_at_call 25; refine (hT.out).mono ?_; rintro e w' ⟨rfl, rfl⟩)
  go_ret
  exact ⟨rfl, rfl⟩

theorem copy_no {w : World} : Calls Try.prog 15 #[.pointer none] w fun e w' => e = .returned (.pointer none) ∧ w = w' := by
  go_enter Try.func15, Try.ntmps15
  go_wp2
  go_ret
  exact ⟨rfl, rfl⟩

theorem new_no (s : ByteArray) {w : World} : Calls Try.prog 8 #[.nilFunc, .string s] w fun e w' => e = .returned (.pointer none) ∧ w = w' := by
  have qF : ∀ w : World, (binOp .eql 28 .nilFunc .nilFunc).run Try.prog w = .ok (.bool true) w := fun _ => by kernel_rfl
  go_enter Try.func8, Try.ntmps8
  go_wp2
  go_ret
  exact ⟨rfl, rfl⟩

set_option maxHeartbeats 1000000 in
theorem intoNone_any (y : InsD) {w : World} (h : RdB w y.dv y.d) :
    Calls Try.prog 5 #[.agg #[.int .i64 y.old, .int .i64 y.new, .int .i64 y.ack, .int .i64 y.trash, y.dv]] w fun e w' => e = .returned (.bool true) ∧ Fr0 w w' := by
  have es : ((⟨#[]⟩ : ByteArray) ++ ⟨#[]⟩).toList = [] := by decide +kernel
  obtain ⟨A, c, hdv, hnc, _, _⟩ := h.form
  rw [hdv] at h ⊢
  obtain ⟨cs, hcs⟩ : ∃ cs : Array Value, cs = #[.int .i64 y.old, .int .i64 y.new, .int .i64 y.ack, .int .i64 y.trash, .slice A y.d.length c] := ⟨_, rfl⟩
  have hf0 : Fr0 w (w.alloc (.cells cs 30)) := (Fr0.refl w).alloc _
  have hl63 : y.d.length ≤ 9223372036854775807 := Rd.le63 h
  rw [hcs] at hf0
  clear hcs h hdv
  have Hf0 := Lib.hid hf0; clear hf0
  by_cases hlen : 100 < y.d.length
  · go_enter Try.func5, Try.ntmps5
    go_wp2_with (go_at_call 7; refine (known_any _).mono ?_; rintro e w' ⟨rfl, hf⟩)
    go_ret
    exact ⟨rfl, Hf0.out.trans hf⟩
  · go_enter Try.func5, Try.ntmps5
    go_wp2_with fail
    have hz : NoIn ((w.alloc (Obj.cells #[.int .i64 y.old, .int .i64 y.new, .int .i64 y.ack, .int .i64 y.trash, .slice A y.d.length c] 30)).alloc (Obj.cells #[.nilFunc, .slice none 0 0] 48)) (.pointer (some ⟨w.heap.size + 1, 0, none⟩)) :=
      .inr ⟨_, rfl, by have := Blk.new (w.alloc (Obj.cells #[.int .i64 y.old, .int .i64 y.new, .int .i64 y.ack, .int .i64 y.trash, .slice A y.d.length c] 30)) #[.nilFunc, .slice none 0 0] 48; simpa using this⟩
    have hx : Blk ((w.alloc (Obj.cells #[.int .i64 y.old, .int .i64 y.new, .int .i64 y.ack, .int .i64 y.trash, .slice A y.d.length c] 30)).alloc (Obj.cells #[.nilFunc, .slice none 0 0] 48)) w.heap.size #[.int .i64 y.old, .int .i64 y.new, .int .i64 y.ack, .int .i64 y.trash, .slice A y.d.length c] 30 := (Blk.new w _ _).alloc _
    have hf := Hf0.out.alloc (Obj.cells #[.nilFunc, .slice none 0 0] 48)
    refine (hear_no (.inl rfl) _).mono ?_
    rintro e w1 ⟨rfl, hf1⟩
    replace hz := hz.fr0 hf1
    replace hx := hx.fr0 hf1
    replace hf := hf.trans hf1
    have x0 : w1.cell? ⟨w.heap.size, 0, none⟩ = some (.int .i64 y.old) := hx.cell 0 rfl
    have x1 : w1.cell? ⟨w.heap.size, 1, none⟩ = some (.int .i64 y.new) := hx.cell 1 rfl
    have x2 : w1.cell? ⟨w.heap.size, 2, none⟩ = some (.int .i64 y.ack) := hx.cell 2 rfl
    have x3 : w1.cell? ⟨w.heap.size, 3, none⟩ = some (.int .i64 y.trash) := hx.cell 3 rfl
    have x4 : w1.cell? ⟨w.heap.size, 4, none⟩ = some (.slice A y.d.length c) := hx.cell 4 rfl
    clear hx hf1
    have HZ := Lib.hid hz; clear hz
    go_wp2_with fail
    refine (hear_no HZ.out _).mono ?_
    rintro e w2 ⟨rfl, hf2⟩
    have hz := HZ.out.fr0 hf2
    replace hf := hf.trans hf2
    clear x0 x1 x2 x3 x4 HZ
    have HZ := Lib.hid hz; clear hz
    go_wp2_with fail
    refine (newest_no (.inl rfl)).mono ?_
    rintro e w' ⟨rfl, rfl⟩
    go_wp2_with fail
    refine (newest_no HZ.out).mono ?_
    rintro e w' ⟨rfl, rfl⟩
    go_wp2_with fail
    refine (held_no (.inl rfl)).mono ?_
    rintro e w' ⟨rfl, rfl⟩
    go_wp2_with fail
    refine (held_no HZ.out).mono ?_
    rintro e w' ⟨rfl, rfl⟩
    go_wp2_with fail
    refine copy_no.mono ?_
    rintro e w' ⟨rfl, rfl⟩
    go_wp2_with fail
    refine (new_no _).mono ?_
    rintro e w' ⟨rfl, rfl⟩
    go_wp2_with fail
    refine (known_any _).mono ?_
    rintro e w3 ⟨rfl, hf3⟩
    go_wp2_with fail
    go_ret
    exact ⟨rfl, hf.trans hf3⟩

namespace IntoNone
open Go.ChangeShapes Go.WideShapes Go.ChangeAt

theorem own : ownKnob Try.prog.godebug = none := by kernel_rfl
theorem laidOut : laidOutB Try.prog = true := by kernel_rfl

set_option maxRecDepth 100000 in
theorem lifted (os : Os) (started : os.Started) (H : Type) (enc : TypeId × Value → H) :
    ReturnsInHanded {} Try.checked os 5 .any (Rows.intoNoneSpec.pre6 enc Try.prog Try.f5 Rows.intoNoneRow.domain false) (Rows.intoNoneSpec.post enc Try.prog Try.f5 false true false false) := by
  refine returnsInHanded_of_change (C := Try.checked) own started (by kernel_rfl) Try.func5
    (ChangeSpec.witness6 (enc := enc) (C := Try.checked) false ⟨#[], #[.agg #[.int .i64 0, .int .i64 0, .int .i64 0, .int .i64 0, .slice none 0 0]], []⟩ 8 (by kernel_rfl) (by kernel_rfl) (by kernel_rfl) (by kernel_rfl)) ?_
  intro W base args ds gs before hval0 hW hcnd _
  have hval : ∀ (j : Nat) t v, Try.f5.params[j]? = some t → args[j]? = some v → Value.okWide Try.prog W .any base t v := hval0
  have hW' := hW
  obtain ⟨p, q, hA0, hV, rfl, hfz, hnd⟩ := hW
  have hA : DataW.TrodAll enc Try.prog W 0 (fun _ => true) true Try.f5.params.toList args.toList ds p := hA0
  rw [Try.params5] at hA hval
  obtain ⟨v0, vs0, d0, ds0, p0, q0, hargs, rfl, rfl, h0, r0⟩ := trodAll_cons hA
  obtain ⟨rfl, rfl, rfl⟩ := trodAll_nil r0
  obtain rfl : args = #[v0] := by cases args; simp_all
  obtain ⟨rfl, rfl⟩ := trodVars_none hV
  have k0 := h0
  have lt0 : ∀ x ∈ p0, x.block < W.heap.size := by obtain ⟨m, hm⟩ := k0; exact DataW.trod_lt m _ _ _ hm
  obtain ⟨y, rfl, hy⟩ := arg_instr (tb := 26) (eb := 5) Try.underlying30 (by kernel_rfl) (by kernel_rfl)
    (fun j hj => by rcases (by omega : j = 0 ∨ j = 1 ∨ j = 2 ∨ j = 3) with rfl | rfl | rfl | rfl <;> exact ⟨_, rfl, Try.underlying3⟩) ⟨_, rfl, rfl⟩ Try.underlying26 Try.underlying5 (by kernel_rfl) (hval 0 30 v0 rfl rfl) h0
  clear hA0 hval0
  refine (intoNone_any y hy).mono fun e W' ⟨he, hfr⟩ => ?_
  have bel : Below W.heap.size W W' := Fr0.below hfr
  subst he
  exact ⟨_, rfl, _, _, _, [], _, [], hW', trodAll_mk1 (shut_bool Try.underlying4 _), (trodAll_cons_mk (Below.trod laidOut (by kernel_rfl) (of_decide_eq_true (by kernel_rfl)) k0 bel lt0) trodAll_mk0), rfl, bel.frame _, fun h => by cases h⟩

theorem over : Rows.intoNoneRow.holds Try.pinned (OpenSpec.ofChange Rows.intoNoneSpec) :=
  OpenClaim.holds_of_wide 5 Try.f5 rfl rfl rfl rfl rfl rfl rfl ⟨rfl, rfl, rfl, rfl, rfl⟩ rfl rfl rfl rfl rfl (by kernel_rfl) Try.func5 (by kernel_rfl)
    (of_decide_eq_true (by kernel_rfl)) (by unfold Func.isWrapper; first | (rw [if_pos (by decide +kernel)]; kernel_rfl) | (rw [if_neg (by decide +kernel)]; exact ⟨rfl, rfl⟩))
    (fun os started H enc _ => lifted os started H enc)

theorem proved : Rows.IntoNoneSaid := over
#print axioms proved
end IntoNone
end Go.Proofs.Ytbfamnfhnjgllaa
