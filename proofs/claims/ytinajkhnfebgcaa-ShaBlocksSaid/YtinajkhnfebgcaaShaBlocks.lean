/- ShaBlocks: a block is taken into eight words as the document says: the law returns true for any words and any block. No condition. -/
import Derived.Test.YtinajkhnfebgcaaShaRBlock
import Derived.Test.YtinajkhnfebgcaaShaBlock
import Derived.Test.YtinajkhnfebgcaaShaKnown
import Derived.Test.YtinajkhnfebgcaaArr
import Derived.Test.YtinajkhnfebgcaaQuiet
import Derived.Handy
set_option linter.unusedSimpArgs false
namespace Go.Proofs.Ytinajkhnfebgcaa
open Go.RowKit

theorem h8_iArr (x : H8) : h8c x = iArr .u32 [(x.a : Int), x.b, x.c, x.d, x.e, x.f, x.g, x.h] := rfl
theorem h8_eql {x : H8} (w : World) : (binOp .eql 32 (.agg (h8c x)) (.agg (h8c x))).run Try.prog w = .ok (.bool true) w := by
  obtain ⟨i, hi⟩ := info_of_underlying Try.underlying22
  rw [h8_iArr, run_eql_ints (n := 8) Try.underlying32 hi Try.underlying22 (by kernel_rfl) rfl rfl, decide_eq_true rfl]
set_option maxHeartbeats 1000000 in
set_option maxRecDepth 10000 in
theorem blocks_any {x : H8} {d : List UInt8} {w : World} (hx : x.ok) (hd : d.length = 64) : Calls Try.prog 5 #[.agg (h8c x), .agg (byts d).toArray] w fun e w' => e = .returned (.bool true) ∧ Fr0 w w' := by
  have N1 := Lib.hid ((Blk.new w (h8c x) 32).alloc (.cells (byts d).toArray 33))
  have N2 := Lib.hid (show Blk ((w.alloc (.cells (h8c x) 32)).alloc (.cells (byts d).toArray 33)) (w.heap.size + 1) (byts d).toArray 33 from by
    have h := Blk.new (w.alloc (.cells (h8c x) 32)) (byts d).toArray 33
    rw [show (w.alloc (.cells (h8c x) 32)).heap.size = w.heap.size + 1 from Array.size_push _] at h
    exact h)
  have H1 := Lib.hid (fun W => block_any (w := W) hx hd)
  have H2 := Lib.hid (fun W => rturns_any W)
  have H3 := Lib.hid (fun W (hf : Fr0 ((w.alloc (.cells (h8c x) 32)).alloc (.cells (byts d).toArray 33)) W) => show Calls Try.prog 17 #[.agg (h8c x), .slice (some ⟨w.heap.size + 1, 0, none⟩) 64 64, .agg (wA 64 turnL)] W (fun e w' => e = .returned (.agg (h8c (takeN x d turnL))) ∧ Fr0 W w') from
    rblock_any hx (by
      have h := (N2.out).fr0 hf
      unfold RdB
      rw [hd]
      exact ⟨by rw [byts_len, hd], ⟨_, _, rfl, Nat.le_refl _, by unfold maxLen; omega, fun h => by cases h⟩, fun _ => ⟨w.heap.size + 1, 0, 64, _, _, _, rfl, h, fun j u hu => by simpa using hu⟩⟩) hd)
  have H4 := Lib.hid (fun W => known02_any W)
  have hi8 : (Try.prog.info? 32).map (·.size) = some (h8c x).size := by kernel_rfl
  have hi64 : (Try.prog.info? 33).map (·.size) = some (byts d).toArray.size := by rw [byts_size, hd]; kernel_rfl
  obtain ⟨xs, hxs⟩ : ∃ xs, xs = h8c x := ⟨_, rfl⟩
  obtain ⟨ds, hds⟩ : ∃ ds, ds = (byts d).toArray := ⟨_, rfl⟩
  obtain ⟨ks, hks⟩ : ∃ ks, ks = wA 64 turnL := ⟨_, rfl⟩
  have HE := Lib.hid (fun w => h8_eql (x := takeN x d turnL) w)
  obtain ⟨rs, hrs⟩ : ∃ rs, rs = h8c (takeN x d turnL) := ⟨_, rfl⟩
  rw [← hxs, ← hds] at N1 N2 H1 H3 ⊢
  rw [← hxs] at hi8
  rw [← hds] at hi64
  rw [← hks] at H2 H3
  rw [← hrs] at H1 H3 HE
  have HI8 := Lib.hid hi8
  have HI64 := Lib.hid hi64
  clear hxs hds hks hrs hx hd hi8 hi64
  go_enter Try.func5, Try.ntmps5
  go_wp2_with fail
  refine wp_region_class (fun W => Fr0 ((w.alloc (.cells xs 32)).alloc (.cells ds 33)) W) (by kernel_rfl) (by kernel_rfl) ((Fr0.refl _).drew) ?_
  refine q_load rfl 32 _ rfl w.heap.size rfl 32 xs (fun W hW => (N1.out).fr0 hW) _ Try.underlying32 rfl HI8.out ?_
  simp only [Act.put, List.setIfInBounds_toArray, List.set_cons_zero, List.set_cons_succ]
  refine q_load rfl 33 _ rfl (w.heap.size + 1) rfl 33 ds (fun W hW => (N2.out).fr0 hW) _ Try.underlying33 rfl HI64.out ?_
  simp only [Act.put, List.setIfInBounds_toArray, List.set_cons_zero, List.set_cons_succ]
  refine q_call rfl 16 #[.agg xs, .agg ds] (fun _ => by go_simp; try rfl) (fun W hW => (H1.out W).mono (fun e w' ⟨he, hf⟩ => ⟨he, Fr0.trans hW hf⟩)) ?_
  simp only [Act.put, List.setIfInBounds_toArray, List.set_cons_zero, List.set_cons_succ]
  refine q_load rfl 32 _ rfl w.heap.size rfl 32 xs (fun W hW => (N1.out).fr0 hW) _ Try.underlying32 rfl HI8.out ?_
  simp only [Act.put, List.setIfInBounds_toArray, List.set_cons_zero, List.set_cons_succ]
  refine q_val (v := .slice (some ⟨w.heap.size + 1, 0, none⟩) 64 64) rfl (fun W hW => by go_simp; try rfl) ?_
  simp only [Act.put, List.setIfInBounds_toArray, List.set_cons_zero, List.set_cons_succ]
  refine q_call rfl 18 #[] (fun _ => by go_simp; try rfl) (fun W hW => (H2.out W).mono (fun e w' ⟨he, hf⟩ => ⟨he, Fr0.trans hW hf⟩)) ?_
  simp only [Act.put, List.setIfInBounds_toArray, List.set_cons_zero, List.set_cons_succ]
  refine q_call rfl 17 #[.agg xs, .slice (some ⟨w.heap.size + 1, 0, none⟩) 64 64, .agg ks] (fun _ => by go_simp; try rfl) (fun W hW => (H3.out W hW).mono (fun e w' ⟨he, hf⟩ => ⟨he, Fr0.trans hW hf⟩)) ?_
  simp only [Act.put, List.setIfInBounds_toArray, List.set_cons_zero, List.set_cons_succ]
  refine q_bin rfl .eql 32 _ _ _ rfl (fun w => run_eqGuard_agg w _ _ _ _ _ _ (by kernel_rfl)) HE.out ?_
  simp only [Act.put, List.setIfInBounds_toArray, List.set_cons_zero, List.set_cons_succ]
  refine q_move rfl _ rfl ?_
  simp only [Act.put, List.setIfInBounds_toArray, List.set_cons_zero, List.set_cons_succ]
  refine q_call rfl 13 #[] (fun _ => by go_simp; try rfl) (fun W hW => (H4.out W).mono (fun e w' ⟨he, hf⟩ => ⟨he, Fr0.trans hW hf⟩)) ?_
  simp only [Act.put, List.setIfInBounds_toArray, List.set_cons_zero, List.set_cons_succ]
  refine q_val (v := .bool true) rfl (fun W hW => by go_simp; try rfl) ?_
  simp only [Act.put, List.setIfInBounds_toArray, List.set_cons_zero, List.set_cons_succ]
  refine q_assign rfl _ rfl ?_
  simp only [Act.put, List.setIfInBounds_toArray, List.set_cons_zero, List.set_cons_succ]
  refine q_nil ?_
  intro w' hC
  go_wp2_with fail
  go_ret
  exact ⟨rfl, Fr0.trans (((Fr0.refl w).alloc _).alloc _) hC⟩
theorem h8_of {z : List Int} (hl : z.length = 8) (hw : ∀ y ∈ z, (Lit.int .u32 y).wf = true) : ∃ x : H8, x.ok ∧ iArr .u32 z = h8c x := by
  match z, hl with
  | [a, b, c, d, e, f, g, h], _ =>
    obtain ⟨a', rfl, ha⟩ := bnd_u32 (hw a (by simp))
    obtain ⟨b', rfl, hb⟩ := bnd_u32 (hw b (by simp))
    obtain ⟨c', rfl, hc⟩ := bnd_u32 (hw c (by simp))
    obtain ⟨d', rfl, hd⟩ := bnd_u32 (hw d (by simp))
    obtain ⟨e', rfl, he⟩ := bnd_u32 (hw e (by simp))
    obtain ⟨f', rfl, hf⟩ := bnd_u32 (hw f (by simp))
    obtain ⟨g', rfl, hg⟩ := bnd_u32 (hw g (by simp))
    obtain ⟨h', rfl, hh⟩ := bnd_u32 (hw h (by simp))
    exact ⟨⟨a', b', c', d', e', f', g', h'⟩, ⟨ha, hb, hc, hd, he, hf, hg, hh⟩, rfl⟩
theorem blocks_args {z0 z1 : List Int} (w : World) (h0 : z0.length = 8) (w0 : ∀ y ∈ z0, (Lit.int .u32 y).wf = true) (h1 : z1.length = 64) (w1 : ∀ y ∈ z1, (Lit.int .u8 y).wf = true) :
    Calls Try.prog 5 #[.agg (iArr .u32 z0), .agg (iArr .u8 z1)] w fun e w' => e = .returned (.bool true) ∧ Fr0 w w' := by
  obtain ⟨x, hx, e0⟩ := h8_of h0 w0
  obtain ⟨d, e1, hd⟩ := bytes_of_ints w1
  rw [e0, e1]
  exact blocks_any hx (by omega)
namespace ShaBlocks
open Go.ChangeShapes Go.WideShapes Go.ChangeAt
open Go.ChangeMaps (open_string shut_string)

theorem own : ownKnob Try.prog.godebug = none := by kernel_rfl
theorem laidOut : laidOutB Try.prog = true := by kernel_rfl

set_option maxRecDepth 100000 in
theorem lifted (os : Os) (started : os.Started) (H : Type) (enc : TypeId × Value → H) :
    ReturnsInHanded {} Try.checked os 5 .any (Rows.shaBlocksSpec.pre6 enc Try.prog Try.f5 Rows.shaBlocksRow.domain false) (Rows.shaBlocksSpec.post enc Try.prog Try.f5 false true false false) := by
  refine returnsInHanded_of_change (C := Try.checked) own started (by kernel_rfl) Try.func5
    (ChangeSpec.witness6 (enc := enc) (C := Try.checked) false ⟨#[], #[.agg (Array.replicate 8 (.int .u32 0)), .agg (Array.replicate 64 (.int .u8 0))], []⟩ 8 (by kernel_rfl) (by kernel_rfl) (by kernel_rfl) (by kernel_rfl)) ?_
  intro W base args ds gs before hval0 hW hcnd _
  have hval : ∀ (j : Nat) t v, Try.f5.params[j]? = some t → args[j]? = some v → Value.okWide Try.prog W .any base t v := hval0
  have hW' := hW
  obtain ⟨p, q, hA0, hV, rfl, hfz, hnd⟩ := hW
  have hA : DataW.TrodAll enc Try.prog W 0 (fun _ => true) true Try.f5.params.toList args.toList ds p := hA0
  rw [Try.params5] at hA hval
  obtain ⟨v0, vs0, d0', ds0, p0, q0, hargs, rfl, rfl, h0, r0⟩ := trodAll_cons hA
  obtain ⟨v1, vs1, d1', ds1, p1, q1, rfl, rfl, rfl, h1, r1⟩ := trodAll_cons r0
  obtain ⟨rfl, rfl, rfl⟩ := trodAll_nil r1
  obtain rfl : args = #[v0, v1] := by cases args; simp_all
  obtain ⟨rfl, rfl⟩ := trodVars_none hV
  have k0 := h0
  have lt0 : ∀ x ∈ p0, x.block < W.heap.size := by obtain ⟨m, hm⟩ := k0; exact DataW.trod_lt m _ _ _ hm
  obtain ⟨z0, rfl, hl0, hw0⟩ := arg_arr Try.underlying32 Try.underlying22 (by kernel_rfl) (by kernel_rfl) (hval 0 32 v0 rfl rfl) h0
  have k1 := h1
  have lt1 : ∀ x ∈ p1, x.block < W.heap.size := by obtain ⟨m, hm⟩ := k1; exact DataW.trod_lt m _ _ _ hm
  obtain ⟨z1, rfl, hl1, hw1⟩ := arg_arr Try.underlying33 Try.underlying5 (by kernel_rfl) (by kernel_rfl) (hval 1 33 v1 rfl rfl) h1
  clear hA0 hval0
  refine (blocks_args W hl0 hw0 hl1 hw1).mono fun e W' ⟨he, hfr⟩ => ?_
  have bel : Below W.heap.size W W' := Fr0.below hfr
  subst he
  exact ⟨_, rfl, _, _, _, [], _, [], hW', trodAll_mk1 (shut_bool Try.underlying4 _), (trodAll_cons_mk (Below.trod laidOut (by kernel_rfl) (of_decide_eq_true (by kernel_rfl)) k0 bel lt0) (trodAll_cons_mk (Below.trod laidOut (by kernel_rfl) (of_decide_eq_true (by kernel_rfl)) k1 bel lt1) trodAll_mk0)), rfl, bel.frame _, fun h => by cases h⟩

theorem over : Rows.shaBlocksRow.holds Try.pinned (OpenSpec.ofChange Rows.shaBlocksSpec) :=
  OpenClaim.holds_of_wide 5 Try.f5 rfl rfl rfl rfl rfl rfl rfl ⟨rfl, rfl, rfl, rfl, rfl⟩ rfl rfl rfl rfl rfl (by kernel_rfl) Try.func5 (by kernel_rfl)
    (of_decide_eq_true (by kernel_rfl)) (by unfold Func.isWrapper; first | (rw [if_pos (by decide +kernel)]; kernel_rfl) | (rw [if_neg (by decide +kernel)]; exact ⟨rfl, rfl⟩))
    (fun os started H enc _ => lifted os started H enc)

theorem proved : Rows.ShaBlocksSaid := over
#print axioms proved
end ShaBlocks
end Go.Proofs.Ytinajkhnfebgcaa
