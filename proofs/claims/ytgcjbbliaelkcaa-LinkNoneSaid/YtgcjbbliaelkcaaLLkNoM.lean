/- LinkNone: a link that is not there, or that New did not make, sends and hears nothing: the law returns true for any call. No condition. -/
import Derived.Test.YtgcjbbliaelkcaaLkJ2
import Derived.Test.YtgcjbbliaelkcaaArgsLopM
set_option linter.unusedSimpArgs false
set_option linter.unusedVariables false
namespace Go.Proofs.Ytgcjbbliaelkcaa
open Go.RowKit

theorem zlk_built : Try.prog.built 64 [] = some (lkC zLk).toArray := by kernel_rfl
set_option maxHeartbeats 4000000 in
set_option maxRecDepth 100000 in
theorem linkNone_any {bv : Value} {x : Lop} {w : World} (hx : LopIn w (bv, x)) :
    Calls Try.prog 6 #[.agg (lopC (bv, x)).toArray] w fun e w' => e = .returned (.bool true) ∧ Fr0 w w' := by
  obtain ⟨hb, -, -, -, -, -⟩ := hx
  obtain ⟨kind, num, now, frm, dn, n, b⟩ := x
  simp only [] at hb
  obtain ⟨Ab, cb, rfl, -, -, -⟩ := hb.form
  have KN := Lib.hid known09_any
  have B0 := Lib.hid (Blk.new w #[.int .i64 kind, .int .i64 num, .int .i64 now, .int .i64 frm, .bool dn, .int .u64 (n : Int), .slice Ab b.length cb] 53)
  have F0 := Lib.hid ((Fr0.refl w).alloc (.cells #[.int .i64 kind, .int .i64 num, .int .i64 now, .int .i64 frm, .bool dn, .int .u64 (n : Int), .slice Ab b.length cb] 53))
  obtain ⟨nb, hnb⟩ : ∃ n, n = b.length := ⟨_, rfl⟩
  show Calls Try.prog 6 #[.agg #[.int .i64 kind, .int .i64 num, .int .i64 now, .int .i64 frm, .bool dn, .int .u64 (n : Int), .slice Ab b.length cb]] w _
  rw [← hnb] at B0 F0 ⊢
  have c2 := (B0.out).cell 2 rfl
  have c3 := (B0.out).cell 3 rfl
  have c6 := (B0.out).cell 6 rfl
  by_cases h1 : 1300 < nb
  · have t1 : decide ((1300 : Int) < (nb : Int)) = true := decide_eq_true (by omega)
    clear h1 hnb hb
    go_enter Try.func6, Try.ntmps6
    go_wp2_with (go_at_call 8; refine (KN.out _).mono ?_; rintro e w1 ⟨rfl, hf⟩; have F1 := Lib.hid (Fr0.trans F0.out hf); clear hf)
    go_ret
    exact ⟨rfl, F1.out⟩
  have t1 : decide ((1300 : Int) < (nb : Int)) = false := decide_eq_false (by omega)
  have HZB := Lib.hid zlk_built
  have SN := Lib.hid (fun W v => send_nil now v W)
  have HN := Lib.hid (fun W v => hear_nil now frm v W)
  have SO := Lib.hid (fun W p v (h : LkV W p zLk) => send_off h rfl now v)
  have HO := Lib.hid (fun W p v (h : LkV W p zLk) => hear_off h rfl now frm v)
  have NN := Lib.hid (fun W => lnewest_nil W)
  have NO := Lib.hid (fun W p (h : LkV W p zLk) => lnewest_off h rfl)
  have AN := Lib.hid (fun W => laddr_nil W)
  have AO := Lib.hid (fun W p (h : LkV W p zLk) => laddr_off h rfl)
  have XN := Lib.hid (fun W => lnext_nil W)
  have XO := Lib.hid (fun W p (h : LkV W p zLk) => lnext_off h rfl)
  have MN := Lib.hid (fun W => lmeter_nil W)
  have MO := Lib.hid (fun W p (h : LkV W p zLk) => lmeter_off h rfl)
  have CN := Lib.hid (fun W => lcopy_nil W)
  have L0 := Lib.hid (show LkV ((w.alloc (.cells #[.int .i64 kind, .int .i64 num, .int .i64 now, .int .i64 frm, .bool dn, .int .u64 (n : Int), .slice Ab nb cb] 53)).alloc (.cells (lkC zLk).toArray 64)) (w.heap.size + 1) zLk from ⟨by have h := Blk.new (w.alloc (.cells #[.int .i64 kind, .int .i64 num, .int .i64 now, .int .i64 frm, .bool dn, .int .u64 (n : Int), .slice Ab nb cb] 53)) (lkC zLk).toArray 64; rw [World.size_alloc] at h; exact h, rfl⟩)
  have B1 := Lib.hid ((B0.out).alloc (.cells (lkC zLk).toArray 64))
  have F1 := Lib.hid ((F0.out).alloc (.cells (lkC zLk).toArray 64))
  have d2 := (B1.out).cell 2 rfl
  have d3 := (B1.out).cell 3 rfl
  have d6 := (B1.out).cell 6 rfl
  obtain ⟨zc, hzc⟩ : ∃ z, z = (lkC zLk).toArray := ⟨_, rfl⟩
  rw [← hzc] at HZB L0 B1 F1 d2 d3 d6
  obtain ⟨zs, hzs⟩ : ∃ z, z = zLk := ⟨_, rfl⟩
  rw [← hzs] at SO HO NO AO XO MO L0
  clear h1 hnb hb hzc hzs
  go_enter Try.func6, Try.ntmps6
  go_wp2_with (first
    | (have _q := G13; go_at_call 8; refine (KN.out _).mono ?_; rintro e w23 ⟨rfl, hf⟩; have FZ := Lib.hid (Fr0.trans G13.out hf); clear hf)
    | (have _q := G12; go_at_call 18; refine (CN.out _).mono ?_; rintro e w22 ⟨rfl, hf⟩; have G13 := Lib.hid (Fr0.trans G12.out hf); have L13 := Lib.hid ((L12.out).fr0 hf); clear hf)
    | (have _q := G11; go_at_call 22; refine (MO.out _ _ L11.out).mono ?_; rintro e w21 ⟨rfl, hf⟩; have G12 := Lib.hid (Fr0.trans G11.out hf); have L12 := Lib.hid ((L11.out).fr0 hf); clear hf)
    | (have _q := G10; go_at_call 22; refine (MN.out _).mono ?_; rintro e w20 ⟨rfl, hf⟩; have G11 := Lib.hid (Fr0.trans G10.out hf); have L11 := Lib.hid ((L10.out).fr0 hf); clear hf)
    | (have _q := G9; go_at_call 12; refine (XO.out _ _ L9.out).mono ?_; rintro e w19 ⟨rfl, hf⟩; have G10 := Lib.hid (Fr0.trans G9.out hf); have L10 := Lib.hid ((L9.out).fr0 hf); clear hf)
    | (have _q := G8; go_at_call 12; refine (XN.out _).mono ?_; rintro e w18 ⟨rfl, hf⟩; have G9 := Lib.hid (Fr0.trans G8.out hf); have L9 := Lib.hid ((L8.out).fr0 hf); clear hf)
    | (have _q := G7; go_at_call 21; refine (AO.out _ _ L7.out).mono ?_; rintro e w17 ⟨rfl, hf⟩; have G8 := Lib.hid (Fr0.trans G7.out hf); have L8 := Lib.hid ((L7.out).fr0 hf); clear hf)
    | (have _q := G6; go_at_call 21; refine (AN.out _).mono ?_; rintro e w16 ⟨rfl, hf⟩; have G7 := Lib.hid (Fr0.trans G6.out hf); have L7 := Lib.hid ((L6.out).fr0 hf); clear hf)
    | (have _q := G5; go_at_call 20; refine (NO.out _ _ L5.out).mono ?_; rintro e w15 ⟨rfl, hf⟩; have G6 := Lib.hid (Fr0.trans G5.out hf); have L6 := Lib.hid ((L5.out).fr0 hf); clear hf)
    | (have _q := G4; go_at_call 20; refine (NN.out _).mono ?_; rintro e w14 ⟨rfl, hf⟩; have G5 := Lib.hid (Fr0.trans G4.out hf); have L5 := Lib.hid ((L4.out).fr0 hf); clear hf)
    | (have _q := G3; go_at_call 11; refine (HO.out _ _ _ L3.out).mono ?_; rintro e w13 ⟨rfl, hf⟩; have G4 := Lib.hid (Fr0.trans G3.out hf); have L4 := Lib.hid ((L3.out).fr0 hf); have P4 := Lib.hid ((P3.out).fr0 hf); have d2 := (P4.out).cell 2 rfl; have d3 := (P4.out).cell 3 rfl; have d6 := (P4.out).cell 6 rfl; clear hf)
    | (have _q := G2; go_at_call 11; refine (HN.out _ _).mono ?_; rintro e w12 ⟨rfl, hf⟩; have G3 := Lib.hid (Fr0.trans G2.out hf); have L3 := Lib.hid ((L2.out).fr0 hf); have P3 := Lib.hid ((P2.out).fr0 hf); have d2 := (P3.out).cell 2 rfl; have d3 := (P3.out).cell 3 rfl; have d6 := (P3.out).cell 6 rfl; clear hf)
    | (have _q := G1; go_at_call 10; refine (SO.out _ _ _ L1.out).mono ?_; rintro e w11 ⟨rfl, hf⟩; have G2 := Lib.hid (Fr0.trans G1.out hf); have L2 := Lib.hid ((L1.out).fr0 hf); have P2 := Lib.hid ((P1.out).fr0 hf); have d2 := (P2.out).cell 2 rfl; have d3 := (P2.out).cell 3 rfl; have d6 := (P2.out).cell 6 rfl; clear hf)
    | (go_at_call 10; refine (SN.out _ _).mono ?_; rintro e w10 ⟨rfl, hf⟩; have G1 := Lib.hid (Fr0.trans F1.out hf); have L1 := Lib.hid ((L0.out).fr0 hf); have P1 := Lib.hid ((B1.out).fr0 hf); have d2 := (P1.out).cell 2 rfl; have d3 := (P1.out).cell 3 rfl; have d6 := (P1.out).cell 6 rfl; clear hf)
    | (refine list_build rfl 64 _ rfl zc (by simp [Act.eval, Act.put]; exact HZB.out) ?_))
  go_ret
  exact ⟨rfl, FZ.out⟩
namespace LinkNone
open Go.ChangeShapes Go.WideShapes Go.ChangeAt
open Go.ChangeMaps (open_string shut_string)

theorem own : ownKnob Try.prog.godebug = none := by kernel_rfl
theorem laidOut : laidOutB Try.prog = true := by kernel_rfl

set_option maxRecDepth 100000 in
theorem lifted (os : Os) (started : os.Started) (H : Type) (enc : TypeId × Value → H) :
    ReturnsInHanded {} Try.checked os 6 .any (Rows.linkNoneSpec.pre6 enc Try.prog Try.f6 Rows.linkNoneRow.domain false) (Rows.linkNoneSpec.post enc Try.prog Try.f6 false true false false) := by
  refine returnsInHanded_of_change (C := Try.checked) own started (by kernel_rfl) Try.func6
    (ChangeSpec.witness6 (enc := enc) (C := Try.checked) false ⟨#[], #[.agg #[.int .i64 0, .int .i64 0, .int .i64 0, .int .i64 0, .bool false, .int .u64 0, .slice none 0 0]], []⟩ 8 (by kernel_rfl) (by kernel_rfl) (by kernel_rfl) (by kernel_rfl)) ?_
  intro W base args ds gs before hval0 hW hcnd _
  have hval : ∀ (j : Nat) t v, Try.f6.params[j]? = some t → args[j]? = some v → Value.okWide Try.prog W .any base t v := hval0
  have hW' := hW
  obtain ⟨p, q, hA0, hV, rfl, hfz, hnd⟩ := hW
  have hA : DataW.TrodAll enc Try.prog W 0 (fun _ => true) true Try.f6.params.toList args.toList ds p := hA0
  rw [Try.params6] at hA hval
  obtain ⟨v0, vs0, d0', ds0, p0, q0, hargs, rfl, rfl, h0, r0⟩ := trodAll_cons hA
  obtain ⟨rfl, rfl, rfl⟩ := trodAll_nil r0
  obtain rfl : args = #[v0] := by cases args; simp_all
  obtain ⟨rfl, rfl⟩ := trodVars_none hV
  have k0 := h0
  have lt0 : ∀ x ∈ p0, x.block < W.heap.size := by obtain ⟨m, hm⟩ := k0; exact DataW.trod_lt m _ _ _ hm
  obtain ⟨bv0, x0, rfl, hy0⟩ := arg_lop (hval 0 53 v0 rfl rfl) h0
  clear hA0 hval0
  refine (linkNone_any hy0).mono fun e W' ⟨he, hfr⟩ => ?_
  have bel : Below W.heap.size W W' := Fr0.below hfr
  subst he
  exact ⟨_, rfl, _, _, _, [], _, [], hW', trodAll_mk1 (shut_bool Try.underlying4 _), (trodAll_cons_mk (Below.trod laidOut (by kernel_rfl) (of_decide_eq_true (by kernel_rfl)) k0 bel lt0) trodAll_mk0), rfl, bel.frame _, fun h => by cases h⟩

theorem over : Rows.linkNoneRow.holds Try.pinned (OpenSpec.ofChange Rows.linkNoneSpec) :=
  OpenClaim.holds_of_wide 6 Try.f6 rfl rfl rfl rfl rfl rfl rfl ⟨rfl, rfl, rfl, rfl, rfl⟩ rfl rfl rfl rfl rfl (by kernel_rfl) Try.func6 (by kernel_rfl)
    (of_decide_eq_true (by kernel_rfl)) (by unfold Func.isWrapper; first | (rw [if_pos (by decide +kernel)]; kernel_rfl) | (rw [if_neg (by decide +kernel)]; exact ⟨rfl, rfl⟩))
    (fun os started H enc _ => lifted os started H enc)

theorem proved : Rows.LinkNoneSaid := over
#print axioms proved
end LinkNone
end Go.Proofs.Ytgcjbbliaelkcaa
