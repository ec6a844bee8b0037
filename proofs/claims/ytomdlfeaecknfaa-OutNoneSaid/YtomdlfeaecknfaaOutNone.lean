/- OutNone: a sender that is not there, that New did not make, or whose kind has not both functions, does nothing: the law returns true for every text and numbers. No condition. -/
import Derived.Test.YtomdlfeaecknfaaOutEv
import Derived.Test.YtomdlfeaecknfaaWLits
namespace Go.Proofs.Ytomdlfeaecknfaa
open Go.RowKit

/-- A sender that is not there, or that New did not make. -/
def Nobody (w : World) (v : Value) : Prop := v = .pointer none ∨ ∃ q, v = .pointer (some ⟨q, 0, none⟩) ∧ Blk w q #[.nilFunc, .nilFunc, .string ⟨#[]⟩, .slice none 0 0, .int .i64 0, .bool false, .int .i64 0] 61
theorem Nobody.fr0 {w w' : World} {v : Value} (h : Nobody w v) (hf : Fr0 w w') : Nobody w' v := by
  rcases h with h | ⟨q, h, hb⟩
  · exact .inl h
  · exact .inr ⟨q, h, hb.fr0 hf⟩
theorem there_no {v : Value} {w : World} (h : Nobody w v) : Calls Try.prog 25 #[v] w fun e w' => e = .returned (.bool false) ∧ w = w' := by
  rcases h with rfl | ⟨q, rfl, hb⟩
  · go_enter Try.func25, Try.ntmps25
    go_wp2
    go_ret
    exact ⟨rfl, rfl⟩
  · have h1 : w.cell? ⟨q, 3, none⟩ = some (.slice none 0 0) := hb.cell 3 rfl
    clear hb
    go_enter Try.func25, Try.ntmps25
    go_wp2
    go_ret
    exact ⟨rfl, rfl⟩
set_option maxRecDepth 100000 in
set_option maxHeartbeats 1000000 in
theorem tell_no {v : Value} {w : World} (h : Nobody w v) (now wait ack : Int) : Calls Try.prog 12 #[v, .int .i64 now, .int .i64 wait, .int .i64 ack] w fun e w' => e = .returned (.tuple #[.agg #[.int .i64 0, .int .i64 0, .int .i64 0, .int .i64 0, .slice none 0 0], .bool false]) ∧ Fr0 w w' := by
  have HT := Lib.hid (there_no (h.fr0 ((Fr0.refl w).alloc (.cells #[.int .i64 0, .int .i64 0, .int .i64 0, .int .i64 0, .slice none 0 0] 37))))
  have BZ := Lib.hid (Blk.new w #[.int .i64 0, .int .i64 0, .int .i64 0, .int .i64 0, .slice none 0 0] 37)
  clear h
  go_enter Try.func12, Try.ntmps12
  go_upto_region 2 with (go_at_call 25; refine (HT.out).mono ?_; rintro e w' ⟨rfl, rfl⟩)
  go_wp21
  exact bodyPost_ret (v := .tuple #[.agg #[.int .i64 0, .int .i64 0, .int .i64 0, .int .i64 0, .slice none 0 0], .bool false]) (oret_tell (BZ.out) rfl rfl rfl) rfl ⟨rfl, (Fr0.refl w).alloc _⟩
theorem heard_no {v : Value} {w : World} (h : Nobody w v) (ack : Int) : Calls Try.prog 13 #[v, .int .i64 ack] w fun e w' => e = .returned (.tuple #[]) ∧ Fr0 w w' := by
  have HT := Lib.hid (there_no (h.fr0 ((Fr0.refl w).alloc (.cells #[.int .i64 ack] 3))))
  clear h
  go_enter Try.func13, Try.ntmps13
  go_wp2_with (go_at_call 25; refine (HT.out).mono ?_; rintro e w' ⟨rfl, rfl⟩)
  refine bodyPost_ret (results_none rfl _ _ _) rfl ?_
  exact ⟨rfl, (Fr0.refl w).alloc _⟩
theorem base_no {v : Value} {w : World} (h : Nobody w v) : Calls Try.prog 15 #[v] w fun e w' => e = .returned (.tuple #[.int .i64 0, .string ⟨#[]⟩]) ∧ w = w' := by
  have HT := Lib.hid (there_no h)
  clear h
  go_enter Try.func15, Try.ntmps15
  go_wp2_with (go_at_call 25; refine (HT.out).mono ?_; rintro e w' ⟨rfl, rfl⟩)
  go_ret2
  exact ⟨rfl, rfl⟩
theorem newest_no {v : Value} {w : World} (h : Nobody w v) : Calls Try.prog 14 #[v] w fun e w' => e = .returned (.tuple #[.int .i64 0, .string ⟨#[]⟩]) ∧ w = w' := by
  have HT := Lib.hid (there_no h)
  clear h
  go_enter Try.func14, Try.ntmps14
  go_wp2_with (go_at_call 25; refine (HT.out).mono ?_; rintro e w' ⟨rfl, rfl⟩)
  go_ret2
  exact ⟨rfl, rfl⟩
theorem set_no {v : Value} {w : World} (h : Nobody w v) (s : ByteArray) : Calls Try.prog 11 #[v, .string s] w fun e w' => e = .returned (.int .i64 1) ∧ w = w' := by
  have HT := Lib.hid (there_no h)
  clear h
  go_enter Try.func11, Try.ntmps11
  go_wp2_with (go_at_call 25; refine (HT.out).mono ?_; rintro e w' ⟨rfl, rfl⟩)
  go_ret
  exact ⟨rfl, rfl⟩
theorem now_no {v : Value} {w : World} (h : Nobody w v) : Calls Try.prog 22 #[v] w fun e w' => e = .returned (.string ⟨#[]⟩) ∧ w = w' := by
  have HT := Lib.hid (there_no h)
  clear h
  go_enter Try.func22, Try.ntmps22
  go_wp2_with (go_at_call 25; refine (HT.out).mono ?_; rintro e w' ⟨rfl, rfl⟩)
  go_ret
  exact ⟨rfl, rfl⟩
theorem sent_no {v : Value} {w : World} (h : Nobody w v) : Calls Try.prog 16 #[v] w fun e w' => e = .returned (.int .i64 0) ∧ w = w' := by
  have HT := Lib.hid (there_no h)
  clear h
  go_enter Try.func16, Try.ntmps16
  go_wp2_with (go_at_call 25; refine (HT.out).mono ?_; rintro e w' ⟨rfl, rfl⟩)
  go_ret
  exact ⟨rfl, rfl⟩
theorem copy_no (w : World) : Calls Try.prog 21 #[.pointer none] w fun e w' => e = .returned (.pointer none) ∧ w = w' := by
  go_enter Try.func21, Try.ntmps21
  go_wp2
  go_ret
  exact ⟨rfl, rfl⟩
theorem new_no1 (s : ByteArray) (w : World) : Calls Try.prog 9 #[.agg #[.func (.func 23) #[] #[], .nilFunc], .string s] w fun e w' => e = .returned (.pointer none) ∧ Fr0 w w' := by
  have qS : ∀ w : World, (binOp .eql 26 (.func (.func 23) #[] #[]) .nilFunc).run Try.prog w = .ok (.bool false) w := fun _ => by kernel_rfl
  have qD : ∀ w : World, (binOp .eql 27 .nilFunc .nilFunc).run Try.prog w = .ok (.bool true) w := fun _ => by kernel_rfl
  go_enter Try.func9, Try.ntmps9
  go_wp2
  go_ret
  exact ⟨rfl, (Fr0.refl w).alloc _⟩
theorem new_no2 (s : ByteArray) (w : World) : Calls Try.prog 9 #[.agg #[.nilFunc, .func (.func 24) #[] #[]], .string s] w fun e w' => e = .returned (.pointer none) ∧ Fr0 w w' := by
  have qS : ∀ w : World, (binOp .eql 26 .nilFunc .nilFunc).run Try.prog w = .ok (.bool true) w := fun _ => by kernel_rfl
  go_enter Try.func9, Try.ntmps9
  go_wp2
  go_ret
  exact ⟨rfl, (Fr0.refl w).alloc _⟩

set_option maxHeartbeats 2000000 in
set_option maxRecDepth 100000 in
theorem outNone_any {s : ByteArray} {now wait n : Int} {w : World} :
    Calls Try.prog 7 #[.string s, .int .i64 now, .int .i64 wait, .int .i64 n] w fun e w' => e = .returned (.bool true) ∧ Fr0 w w' := by
  have NB := Lib.hid (show Nobody (w.alloc (.cells #[.nilFunc, .nilFunc, .string ⟨#[]⟩, .slice none 0 0, .int .i64 0, .bool false, .int .i64 0] 61)) (.pointer (some ⟨w.heap.size, 0, none⟩)) from .inr ⟨_, rfl, Blk.new w _ _⟩)
  have NN := Lib.hid (fun (W : World) => show Nobody W (.pointer none) from .inl rfl)
  have W0 := Lib.hid ((Fr0.refl w).alloc (.cells #[.nilFunc, .nilFunc, .string ⟨#[]⟩, .slice none 0 0, .int .i64 0, .bool false, .int .i64 0] 61))
  have hk0 : ∀ w, (Instr.field 29 (.agg #[.func (.func 23) #[] #[], .func (.func 24) #[] #[]]) 0).run Try.prog w = .ok (.func (.func 23) #[] #[]) w := fun _ => by kernel_rfl
  have hk1 : ∀ w, (Instr.field 29 (.agg #[.func (.func 23) #[] #[], .func (.func 24) #[] #[]]) 1).run Try.prog w = .ok (.func (.func 24) #[] #[]) w := fun _ => by kernel_rfl
  have hE : ((⟨#[]⟩ : ByteArray) ++ ⟨#[]⟩) = ⟨#[]⟩ := rfl
  have hE0 : (⟨#[]⟩ : ByteArray).toList = [] := by rw [ByteArray.toList_eq]
  go_enter Try.func7, Try.ntmps7
  go_wp2_with (first
    | (have _q := T9; go_at_call 9; refine (new_no2 _ _).mono ?_; rintro e wb ⟨rfl, hf⟩; replace Q := Lib.hid (Fr0.trans Q.out hf); replace NB := Lib.hid ((NB.out).fr0 hf); clear hf)
    | (go_at_call 9; refine (new_no1 _ _).mono ?_; rintro e wa ⟨rfl, hf⟩; have T9 := Lib.hid True.intro; replace Q := Lib.hid (Fr0.trans Q.out hf); replace NB := Lib.hid ((NB.out).fr0 hf); clear hf)
    | (go_at_call 10; refine (texts_any _).mono ?_; rintro e wt ⟨rfl, hf⟩; replace Q := Lib.hid (Fr0.trans Q.out hf); replace NB := Lib.hid ((NB.out).fr0 hf); clear hf)
    | (have _q := T1; go_at_call 12; refine (tell_no NB.out now wait n).mono ?_; rintro e w2 ⟨rfl, hf⟩; have T2 := Lib.hid True.intro; have B2 := Lib.hid (Blk.new w2 #[.int .i64 0, .int .i64 0, .int .i64 0, .int .i64 0, .slice none 0 0] 37); have B1' := Lib.hid (((B1.out).fr0 hf).alloc (.cells #[.int .i64 0, .int .i64 0, .int .i64 0, .int .i64 0, .slice none 0 0] 37)); have Q := Lib.hid ((Fr0.trans Q1.out hf).alloc (.cells #[.int .i64 0, .int .i64 0, .int .i64 0, .int .i64 0, .slice none 0 0] 37)); replace NB := Lib.hid ((NB.out).fr0 (Fr.alloc hf (.cells #[.int .i64 0, .int .i64 0, .int .i64 0, .int .i64 0, .slice none 0 0] 37))); clear hf)
    | (go_at_call 12; refine (tell_no (NN.out _) now wait n).mono ?_; rintro e w1 ⟨rfl, hf⟩; have T1 := Lib.hid True.intro; have B1 := Lib.hid (Blk.new w1 #[.int .i64 0, .int .i64 0, .int .i64 0, .int .i64 0, .slice none 0 0] 37); have Q1 := Lib.hid ((Fr0.trans W0.out hf).alloc (.cells #[.int .i64 0, .int .i64 0, .int .i64 0, .int .i64 0, .slice none 0 0] 37)); replace NB := Lib.hid ((NB.out).fr0 (Fr.alloc hf (.cells #[.int .i64 0, .int .i64 0, .int .i64 0, .int .i64 0, .slice none 0 0] 37))); clear hf)
    | (have _q := T3; go_at_call 13; refine (heard_no NB.out n).mono ?_; rintro e w4 ⟨rfl, hf⟩; replace Q := Lib.hid (Fr0.trans Q.out hf); replace NB := Lib.hid ((NB.out).fr0 hf); have B1t := Lib.hid ((B1s.out).fr0 hf); have B2t := Lib.hid ((B2s.out).fr0 hf); have a0 : w4.cell? ⟨w1.heap.size, 0, none⟩ = some (.int .i64 0) := (B1t.out).cell 0 rfl; have a1 : w4.cell? ⟨w1.heap.size, 1, none⟩ = some (.int .i64 0) := (B1t.out).cell 1 rfl; have a2 : w4.cell? ⟨w1.heap.size, 2, none⟩ = some (.int .i64 0) := (B1t.out).cell 2 rfl; have a3 : w4.cell? ⟨w1.heap.size, 3, none⟩ = some (.int .i64 0) := (B1t.out).cell 3 rfl; have a4 : w4.cell? ⟨w1.heap.size, 4, none⟩ = some (.slice none 0 0) := (B1t.out).cell 4 rfl; clear hf)
    | (go_at_call 13; refine (heard_no (NN.out _) n).mono ?_; rintro e w3 ⟨rfl, hf⟩; have T3 := Lib.hid True.intro; replace Q := Lib.hid (Fr0.trans Q.out hf); replace NB := Lib.hid ((NB.out).fr0 hf); have B1s := Lib.hid ((B1'.out).fr0 hf); have B2s := Lib.hid ((B2.out).fr0 hf); clear hf)
    | (go_at_call 15; refine (base_no NB.out).mono ?_; rintro e w' ⟨rfl, rfl⟩)
    | (go_at_call 14; refine (newest_no NB.out).mono ?_; rintro e w' ⟨rfl, rfl⟩)
    | (have _q := T5; go_at_call 19; refine (refSame_any (dx := []) (dy := []) (RdB.nil _) (RdB.nil _)).mono ?_; rintro e w6 ⟨he, hf⟩; rw [show alike 0 0 0 0 [] 0 0 0 0 [] = true from by decide] at he; subst he; replace Q := Lib.hid (Fr0.trans Q.out hf); replace NB := Lib.hid ((NB.out).fr0 hf); clear hf)
    | (go_at_call 19; refine (refSame_any (dx := []) (dy := []) (RdB.nil _) (RdB.nil _)).mono ?_; rintro e w5 ⟨he, hf⟩; rw [show alike 0 0 0 0 [] 0 0 0 0 [] = true from by decide] at he; subst he; have T5 := Lib.hid True.intro; replace Q := Lib.hid (Fr0.trans Q.out hf); replace NB := Lib.hid ((NB.out).fr0 hf); have b0 : w5.cell? ⟨w2.heap.size, 0, none⟩ = some (.int .i64 0) := ((B2t.out).fr0 hf).cell 0 rfl; have b1 : w5.cell? ⟨w2.heap.size, 1, none⟩ = some (.int .i64 0) := ((B2t.out).fr0 hf).cell 1 rfl; have b2 : w5.cell? ⟨w2.heap.size, 2, none⟩ = some (.int .i64 0) := ((B2t.out).fr0 hf).cell 2 rfl; have b3 : w5.cell? ⟨w2.heap.size, 3, none⟩ = some (.int .i64 0) := ((B2t.out).fr0 hf).cell 3 rfl; have b4 : w5.cell? ⟨w2.heap.size, 4, none⟩ = some (.slice none 0 0) := ((B2t.out).fr0 hf).cell 4 rfl; clear hf)
    | (go_at_call 11; first | ((with_reducible refine (set_no (NN.out _) _).mono ?_); rintro e w' ⟨rfl, rfl⟩) | ((with_reducible refine (set_no NB.out _).mono ?_); rintro e w' ⟨rfl, rfl⟩))
    | (go_at_call 22; first | ((with_reducible refine (now_no (NN.out _)).mono ?_); rintro e w' ⟨rfl, rfl⟩) | ((with_reducible refine (now_no NB.out).mono ?_); rintro e w' ⟨rfl, rfl⟩))
    | (go_at_call 16; first | ((with_reducible refine (sent_no (NN.out _)).mono ?_); rintro e w' ⟨rfl, rfl⟩) | ((with_reducible refine (sent_no NB.out).mono ?_); rintro e w' ⟨rfl, rfl⟩))
    | (go_at_call 21; refine (copy_no _).mono ?_; rintro e w' ⟨rfl, rfl⟩)
    | (go_at_call 8; refine (known23_any _).mono ?_; rintro e wz ⟨rfl, hf⟩; replace Q := Lib.hid (Fr0.trans Q.out hf); clear hf))
  go_ret
  exact ⟨rfl, Q.out⟩

namespace OutNone
open Go.ChangeShapes Go.WideShapes Go.ChangeAt
open Go.ChangeMaps (open_string shut_string)

theorem own : ownKnob Try.prog.godebug = none := by kernel_rfl
theorem laidOut : laidOutB Try.prog = true := by kernel_rfl

set_option maxRecDepth 100000 in
theorem lifted (os : Os) (started : os.Started) (H : Type) (enc : TypeId × Value → H) :
    ReturnsInHanded {} Try.checked os 7 .any (Rows.outNoneSpec.pre6 enc Try.prog Try.f7 Rows.outNoneRow.domain false) (Rows.outNoneSpec.post enc Try.prog Try.f7 false true false false) := by
  refine returnsInHanded_of_change (C := Try.checked) own started (by kernel_rfl) Try.func7
    (ChangeSpec.witness6 (enc := enc) (C := Try.checked) false ⟨#[], #[.string ⟨#[]⟩, .int .i64 0, .int .i64 0, .int .i64 0], []⟩ 8 (by kernel_rfl) (by kernel_rfl) (by kernel_rfl) (by kernel_rfl)) ?_
  intro W base args ds gs before hval0 hW hcnd _
  have hval : ∀ (j : Nat) t v, Try.f7.params[j]? = some t → args[j]? = some v → Value.okWide Try.prog W .any base t v := hval0
  have hW' := hW
  obtain ⟨p, q, hA0, hV, rfl, hfz, hnd⟩ := hW
  have hA : DataW.TrodAll enc Try.prog W 0 (fun _ => true) true Try.f7.params.toList args.toList ds p := hA0
  rw [Try.params7] at hA hval
  obtain ⟨v0, vs0, d0', ds0, p0, q0, hargs, rfl, rfl, h0, r0⟩ := trodAll_cons hA
  obtain ⟨v1, vs1, d1', ds1, p1, q1, rfl, rfl, rfl, h1, r1⟩ := trodAll_cons r0
  obtain ⟨v2, vs2, d2', ds2, p2, q2, rfl, rfl, rfl, h2, r2⟩ := trodAll_cons r1
  obtain ⟨v3, vs3, d3', ds3, p3, q3, rfl, rfl, rfl, h3, r3⟩ := trodAll_cons r2
  obtain ⟨rfl, rfl, rfl⟩ := trodAll_nil r3
  obtain rfl : args = #[v0, v1, v2, v3] := by cases args; simp_all
  obtain ⟨rfl, rfl⟩ := trodVars_none hV
  obtain ⟨s0, rfl, rfl, rfl, hs0⟩ := open_string Try.underlying9 (hval 0 9 v0 rfl rfl) h0
  obtain ⟨n1, rfl, rfl, rfl, hn1⟩ := open_int Try.underlying3 (hval 1 3 v1 rfl rfl) h1
  have hm1 := lit_i64 hn1
  obtain ⟨n2, rfl, rfl, rfl, hn2⟩ := open_int Try.underlying3 (hval 2 3 v2 rfl rfl) h2
  have hm2 := lit_i64 hn2
  obtain ⟨n3, rfl, rfl, rfl, hn3⟩ := open_int Try.underlying3 (hval 3 3 v3 rfl rfl) h3
  have hm3 := lit_i64 hn3
  clear hA0 hval0
  refine (outNone_any).mono fun e W' ⟨he, hfr⟩ => ?_
  have bel : Below W.heap.size W W' := Fr0.below hfr
  subst he
  exact ⟨_, rfl, _, _, _, [], _, [], hW', trodAll_mk1 (shut_bool Try.underlying4 _), (trodAll_cons_mk (shut_string Try.underlying9 hs0) (trodAll_cons_mk (shut_int Try.underlying3 hn1) (trodAll_cons_mk (shut_int Try.underlying3 hn2) (trodAll_cons_mk (shut_int Try.underlying3 hn3) trodAll_mk0)))), rfl, bel.frame _, fun h => by cases h⟩

theorem over : Rows.outNoneRow.holds Try.pinned (OpenSpec.ofChange Rows.outNoneSpec) :=
  OpenClaim.holds_of_wide 7 Try.f7 rfl rfl rfl rfl rfl rfl rfl ⟨rfl, rfl, rfl, rfl, rfl⟩ rfl rfl rfl rfl rfl (by kernel_rfl) Try.func7 (by kernel_rfl)
    (of_decide_eq_true (by kernel_rfl)) (by unfold Func.isWrapper; first | (rw [if_pos (by decide +kernel)]; kernel_rfl) | (rw [if_neg (by decide +kernel)]; exact ⟨rfl, rfl⟩))
    (fun os started H enc _ => lifted os started H enc)

theorem proved : Rows.OutNoneSaid := over
#print axioms proved
end OutNone
end Go.Proofs.Ytomdlfeaecknfaa
