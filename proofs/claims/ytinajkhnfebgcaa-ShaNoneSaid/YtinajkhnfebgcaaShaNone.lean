/- ShaNone: a hash that is not there, or that New did not make, is as one without bytes: the law returns true for any bytes. No condition. -/
import Derived.Test.YtinajkhnfebgcaaShaEq
import Derived.Handy
set_option linter.unusedSimpArgs false
namespace Go.Proofs.Ytinajkhnfebgcaa
open Go.RowKit

theorem hashZ_built : Try.prog.built 49 [] = some hashZ := by kernel_rfl
set_option maxHeartbeats 2000000 in
set_option maxRecDepth 10000 in
theorem none02_any {v : Value} {b : List UInt8} {w : World} (h : RdB w v b) : Calls Try.prog 7 #[v] w fun e w' => e = .returned (.bool true) ∧ Fr0 w w' := by
  obtain ⟨Av, cv, rfl, h1, h2, h3⟩ := h.form
  have HKN := Lib.hid (fun W => known02_any W)
  obtain ⟨nb, hnb⟩ : ∃ n, n = b.length := ⟨_, rfl⟩
  have hnm : (nb : Int) ≤ 9223372036854775807 := by unfold maxLen at h2; omega
  have HR := Lib.hid h
  by_cases hl : nb ≤ 200
  · have hlb : b.length ≤ 900000 := by omega
    have HW0 := Lib.hid (fun W (hf : Fr0 w W) => hwrite_nil (.slice Av nb cv) W)
    have HSZ := Lib.hid (hsum_zero (w := w.alloc (.cells hashZ 49)) (p := w.heap.size) (base := w.heap.size) (Blk.new w hashZ 49) (Nat.le_refl _))
    have HBZ := hashZ_built
    have HE0 := Lib.hid (fun W => dig_eql (sha_len []) (sha_len []) W)
    have HEb := Lib.hid (fun W => dig_eql (sha_len b) (sha_len b) W)
    rw [decide_eq_true rfl] at HE0 HEb
    have HSN := Lib.hid (fun W => hsum_nil W)
    have HRN := Lib.hid (fun W => rsum_any (RdB.nil W) (by simp))
    have HRB := Lib.hid (fun W (hf : Fr0 w W) => rsum_any (h.fr0 hf) hlb)
    have HSB := Lib.hid (fun (W : World) (base p : Nat) (v : Value) (hv : HashV base W p v b) => hsum_any hv hlb)
    have hi0 := dig_info (sha_len [])
    have ho0 := z32_size (sha_len [])
    have ha0 := byts_all (shaN [])
    have HRUN := Lib.hid (fun W => z32_run W)
    have HWR := Lib.hid (fun (W : World) (base p : Nat) (v : Value) (hv : HashV base W p v []) (hf : Fr0 w W) (hp : w.heap.size ≤ p) (hb : base ≤ W.heap.size) => show Calls Try.prog 20 #[.pointer (some ⟨p, 0, none⟩), .slice Av nb cv] W (fun e w' => e = .returned (.tuple #[]) ∧ ∃ v', HashV base w' p v' b ∧ Fr (hOwn p v) W w') from by
      rw [hnb]
      refine (hwrite_any hv (h.fr0 hf) (fun h0 hq => by have := Rd.blk_lt h h0 _ hq; omega) hb (by simp; omega)).mono ?_
      rintro e w' ⟨he, v', hv', hf', -⟩
      exact ⟨he, v', hv', hf'⟩)
    have HCP := Lib.hid (fun W => hcopy_nil W)
    obtain ⟨s0, hs0⟩ : ∃ s, s = (byts (shaN [])).toArray := ⟨_, rfl⟩
    obtain ⟨sb, hsb⟩ : ∃ s, s = (byts (shaN b)).toArray := ⟨_, rfl⟩
    obtain ⟨hz, hhz⟩ : ∃ z, z = hashZ := ⟨_, rfl⟩
    obtain ⟨z32, hz32⟩ : ∃ z, z = z32A := ⟨_, rfl⟩
    rw [← hs0] at HSZ HE0 HSN HRN hi0 ho0 ha0
    rw [← hsb] at HEb HRB HSB
    rw [← hhz] at HSZ HBZ
    rw [← hz32] at HRUN ho0
    rw [← hnb] at HR HRB ⊢
    have HBZ2 := Lib.hid HBZ
    have HI0 := Lib.hid hi0
    have HO0 := Lib.hid ho0
    have hl63 : (nb : Int) ≤ 200 := by omega
    clear hs0 hsb hhz hz32 hnb HBZ h h1 h2 h3 hlb hi0 ho0
    go_enter Try.func7, Try.ntmps7
    go_upto_region 12 with (first
      | (have _q := H5; go_at_call 20; refine (HWR.out _ _ _ _ H5.out F5.out L5.out Z5.out).mono ?_; rintro e w6 ⟨rfl, v6, hv, hf⟩; have H6 := Lib.hid hv; have Z6 := Lib.hid (HashV.fr Z4b.out hf (fun k hk hq => by have h1 := (HashR.own_lo Z4.out k hk).2; have h2 := (HashR.own_lo H5.out k hq).1; omega)); have B6 := Lib.hid ((B5.out).fr hf (fun hq => by have h2 := (HashR.own_lo H5.out _ hq).1; have := (B4.out).lt; omega)); have F6 := Lib.hid (show Fr0 w w6 from Fr.then F5.out hf (fun q hq hl => by have := (HashR.own_lo H5.out q hq).1; have := (F4.out).size; omega)); clear hv hf)
      | (have _q := H1; go_at_call 20; refine (HWR.out _ _ _ _ H3.out F3.out (Nat.le_refl _) (F3.out).size).mono ?_; rintro e w4 ⟨rfl, v4, hv, hf⟩; have Z4 := Lib.hid hv; have B4 := Lib.hid ((B3.out).fr hf (fun hq => by rcases hq with hq | hq; (have := LG.out; omega); cases hq)); have F4 := Lib.hid (show Fr0 w w4 from Fr.then F3.out hf (fun q hq hl => by have := (HashR.own_lo H3.out q hq).1; omega)); clear hv hf)
      | (go_at_call 20; refine (HW0.out _ (Fr0.refl w)).mono ?_; rintro e w' ⟨rfl, rfl⟩)
      | (refine list_build rfl 49 _ rfl hz (by simp [Act.eval, Act.put]; exact HBZ2.out) ?_)
      | (go_at_call 21; refine (HSZ.out).mono ?_; rintro e w1 ⟨rfl, hv, hf⟩; have H1 := Lib.hid hv; have F1 := Lib.hid (Fr0.new ((Fr0.refl w).alloc _) hf (Nat.le_refl _)); clear hv hf)
      | (refine list_alloc_blk rfl 28 rfl z32 HRUN.out ?_; intro g5 w2 hB hF hl5; have B2 := Lib.hid hB; have H2 := Lib.hid (HashV.fr0 H1.out hF); have F2 := Lib.hid (Fr0.trans F1.out hF); have LG := Lib.hid (show w.heap.size < g5 by have := (HashR.own_lo H1.out w.heap.size (.inl rfl)).2; omega); clear hB hF hl5)
      | (refine list_store_blk rfl 28 _ _ rfl g5 s0 rfl rfl 28 z32 B2.out HI0.out HO0.out ha0 ?_; intro w3 hB hF; have B3 := Lib.hid hB; have H3 := Lib.hid (HashV.fr H2.out hF (fun k hk hq => by rcases hk with hk | hk; (have := LG.out; omega); cases hk)); have F3 := Lib.hid (Fr0.new F2.out hF (by have := LG.out; omega)); clear hB hF)
      | (go_at_call 22; refine (HCP.out _).mono ?_; rintro e w5 ⟨p5, rfl, hv, hf⟩; have H5 := Lib.hid hv; have Z5 := Lib.hid hf.size; have Z4b := Lib.hid (HashV.fr0 Z4.out hf); have B5 := Lib.hid ((B4.out).fr0 hf); have F5 := Lib.hid (Fr0.trans F4.out hf); have L5 := Lib.hid (Nat.le_trans (F4.out).size (hv.lo)); clear hv hf))
    have HSB6 := Lib.hid (fun W (hW : Fr0 w6 W) => HSB.out W _ _ _ (HashV.fr0 Z6.out hW))
    have HSC6 := Lib.hid (fun W (hW : Fr0 w6 W) => HSB.out W _ _ _ (HashV.fr0 H6.out hW))
    refine wp_region_class (fun W => Fr0 w6 W) (by kernel_rfl) (by kernel_rfl) ((Fr0.refl _).drew) ?_
    refine q_move rfl _ rfl ?_
    simp only [Act.put, List.setIfInBounds_toArray, List.set_cons_zero, List.set_cons_succ]
    refine q_call rfl 23 #[.pointer none] (fun _ => by go_simp; try rfl) (fun W hW => (hlen_nil W).mono (fun e w' ⟨he, hf⟩ => ⟨he, by rw [← hf]; exact hW⟩)) ?_
    simp only [Act.put, List.setIfInBounds_toArray, List.set_cons_zero, List.set_cons_succ]
    refine q_val rfl (fun W hW => by go_simp; try rfl) ?_
    simp only [Act.put, List.setIfInBounds_toArray, List.set_cons_zero, List.set_cons_succ]
    refine q_move rfl _ rfl ?_
    simp only [Act.put, List.setIfInBounds_toArray, List.set_cons_zero, List.set_cons_succ]
    refine q_move rfl _ rfl ?_
    simp only [Act.put, List.setIfInBounds_toArray, List.set_cons_zero, List.set_cons_succ]
    refine q_call rfl 21 #[.pointer none] (fun _ => by go_simp; try rfl) (fun W hW => (HSN.out W).mono (fun e w' ⟨he, hf⟩ => ⟨he, Fr0.trans hW hf⟩)) ?_
    simp only [Act.put, List.setIfInBounds_toArray, List.set_cons_zero, List.set_cons_succ]
    refine q_call rfl 15 #[.slice none 0 0] (fun _ => by go_simp; try rfl) (fun W hW => (HRN.out W).mono (fun e w' ⟨he, hf⟩ => ⟨he, Fr0.trans hW hf⟩)) ?_
    simp only [Act.put, List.setIfInBounds_toArray, List.set_cons_zero, List.set_cons_succ]
    refine q_bin rfl .eql 28 _ _ _ rfl (fun w => dig_guard _ _ _ _ _ w) HE0.out ?_
    simp only [Act.put, List.setIfInBounds_toArray, List.set_cons_zero, List.set_cons_succ]
    refine q_val rfl (fun W hW => by go_simp; try rfl) ?_
    simp only [Act.put, List.setIfInBounds_toArray, List.set_cons_zero, List.set_cons_succ]
    refine q_move rfl _ rfl ?_
    simp only [Act.put, List.setIfInBounds_toArray, List.set_cons_zero, List.set_cons_succ]
    refine q_load rfl 28 _ rfl g5 rfl 28 s0 (fun W hW => (B6.out).fr0 hW) _ Try.underlying28 rfl HI0.out ?_
    simp only [Act.put, List.setIfInBounds_toArray, List.set_cons_zero, List.set_cons_succ]
    refine q_call rfl 15 #[.slice none 0 0] (fun _ => by go_simp; try rfl) (fun W hW => (HRN.out W).mono (fun e w' ⟨he, hf⟩ => ⟨he, Fr0.trans hW hf⟩)) ?_
    simp only [Act.put, List.setIfInBounds_toArray, List.set_cons_zero, List.set_cons_succ]
    refine q_bin rfl .eql 28 _ _ _ rfl (fun w => dig_guard _ _ _ _ _ w) HE0.out ?_
    simp only [Act.put, List.setIfInBounds_toArray, List.set_cons_zero, List.set_cons_succ]
    refine q_val rfl (fun W hW => by go_simp; try rfl) ?_
    simp only [Act.put, List.setIfInBounds_toArray, List.set_cons_zero, List.set_cons_succ]
    refine q_move rfl _ rfl ?_
    simp only [Act.put, List.setIfInBounds_toArray, List.set_cons_zero, List.set_cons_succ]
    refine q_move rfl _ rfl ?_
    simp only [Act.put, List.setIfInBounds_toArray, List.set_cons_zero, List.set_cons_succ]
    refine q_call rfl 21 #[.pointer (some ⟨w.heap.size, 0, none⟩)] (fun _ => by go_simp; try rfl) (fun W hW => (HSB6.out W hW).mono (fun e w' ⟨he, hf⟩ => ⟨he, Fr0.trans hW hf⟩)) ?_
    simp only [Act.put, List.setIfInBounds_toArray, List.set_cons_zero, List.set_cons_succ]
    refine q_move rfl _ rfl ?_
    simp only [Act.put, List.setIfInBounds_toArray, List.set_cons_zero, List.set_cons_succ]
    refine q_call rfl 15 #[.slice Av nb cv] (fun _ => by go_simp; try rfl) (fun W hW => (HRB.out W (Fr0.trans F6.out hW)).mono (fun e w' ⟨he, hf⟩ => ⟨he, Fr0.trans hW hf⟩)) ?_
    simp only [Act.put, List.setIfInBounds_toArray, List.set_cons_zero, List.set_cons_succ]
    refine q_bin rfl .eql 28 _ _ _ rfl (fun w => dig_guard _ _ _ _ _ w) HEb.out ?_
    simp only [Act.put, List.setIfInBounds_toArray, List.set_cons_zero, List.set_cons_succ]
    refine q_val rfl (fun W hW => by go_simp; try rfl) ?_
    simp only [Act.put, List.setIfInBounds_toArray, List.set_cons_zero, List.set_cons_succ]
    refine q_move rfl _ rfl ?_
    simp only [Act.put, List.setIfInBounds_toArray, List.set_cons_zero, List.set_cons_succ]
    refine q_move rfl _ rfl ?_
    simp only [Act.put, List.setIfInBounds_toArray, List.set_cons_zero, List.set_cons_succ]
    refine q_call rfl 21 #[.pointer (some ⟨p5, 0, none⟩)] (fun _ => by go_simp; try rfl) (fun W hW => (HSC6.out W hW).mono (fun e w' ⟨he, hf⟩ => ⟨he, Fr0.trans hW hf⟩)) ?_
    simp only [Act.put, List.setIfInBounds_toArray, List.set_cons_zero, List.set_cons_succ]
    refine q_move rfl _ rfl ?_
    simp only [Act.put, List.setIfInBounds_toArray, List.set_cons_zero, List.set_cons_succ]
    refine q_call rfl 15 #[.slice Av nb cv] (fun _ => by go_simp; try rfl) (fun W hW => (HRB.out W (Fr0.trans F6.out hW)).mono (fun e w' ⟨he, hf⟩ => ⟨he, Fr0.trans hW hf⟩)) ?_
    simp only [Act.put, List.setIfInBounds_toArray, List.set_cons_zero, List.set_cons_succ]
    refine q_bin rfl .eql 28 _ _ _ rfl (fun w => dig_guard _ _ _ _ _ w) HEb.out ?_
    simp only [Act.put, List.setIfInBounds_toArray, List.set_cons_zero, List.set_cons_succ]
    refine q_val rfl (fun W hW => by go_simp; try rfl) ?_
    simp only [Act.put, List.setIfInBounds_toArray, List.set_cons_zero, List.set_cons_succ]
    refine q_move rfl _ rfl ?_
    simp only [Act.put, List.setIfInBounds_toArray, List.set_cons_zero, List.set_cons_succ]
    refine q_call rfl 13 #[] (fun _ => by go_simp; try rfl) (fun W hW => (HKN.out W).mono (fun e w' ⟨he, hf⟩ => ⟨he, Fr0.trans hW hf⟩)) ?_
    simp only [Act.put, List.setIfInBounds_toArray, List.set_cons_zero, List.set_cons_succ]
    refine q_val rfl (fun W hW => by go_simp; try rfl) ?_
    simp only [Act.put, List.setIfInBounds_toArray, List.set_cons_zero, List.set_cons_succ]
    refine q_assign rfl _ rfl ?_
    simp only [Act.put, List.setIfInBounds_toArray, List.set_cons_zero, List.set_cons_succ]
    refine q_nil ?_
    intro w' hC
    go_wp2_with fail
    go_ret
    exact ⟨rfl, Fr0.trans F6.out hC⟩
  · have hl2 : (200 : Int) < (nb : Int) := by omega
    rw [← hnb] at HR ⊢
    clear h hnb
    go_enter Try.func7, Try.ntmps7
    go_wp2_with (go_at_call 13; refine (HKN.out _).mono ?_; rintro e w1 ⟨rfl, hf⟩; have F1 := Lib.hid hf; clear hf)
    go_ret
    exact ⟨rfl, F1.out⟩
namespace ShaNone
open Go.ChangeShapes Go.WideShapes Go.ChangeAt
open Go.ChangeMaps (open_string shut_string)

theorem own : ownKnob Try.prog.godebug = none := by kernel_rfl
theorem laidOut : laidOutB Try.prog = true := by kernel_rfl

set_option maxRecDepth 100000 in
theorem lifted (os : Os) (started : os.Started) (H : Type) (enc : TypeId × Value → H) :
    ReturnsInHanded {} Try.checked os 7 .any (Rows.shaNoneSpec.pre6 enc Try.prog Try.f7 Rows.shaNoneRow.domain false) (Rows.shaNoneSpec.post enc Try.prog Try.f7 false true false false) := by
  refine returnsInHanded_of_change (C := Try.checked) own started (by kernel_rfl) Try.func7
    (ChangeSpec.witness6 (enc := enc) (C := Try.checked) false ⟨#[], #[.slice none 0 0], []⟩ 8 (by kernel_rfl) (by kernel_rfl) (by kernel_rfl) (by kernel_rfl)) ?_
  intro W base args ds gs before hval0 hW hcnd _
  have hval : ∀ (j : Nat) t v, Try.f7.params[j]? = some t → args[j]? = some v → Value.okWide Try.prog W .any base t v := hval0
  have hW' := hW
  obtain ⟨p, q, hA0, hV, rfl, hfz, hnd⟩ := hW
  have hA : DataW.TrodAll enc Try.prog W 0 (fun _ => true) true Try.f7.params.toList args.toList ds p := hA0
  rw [Try.params7] at hA hval
  obtain ⟨v0, vs0, d0', ds0, p0, q0, hargs, rfl, rfl, h0, r0⟩ := trodAll_cons hA
  obtain ⟨rfl, rfl, rfl⟩ := trodAll_nil r0
  obtain rfl : args = #[v0] := by cases args; simp_all
  obtain ⟨rfl, rfl⟩ := trodVars_none hV
  have k0 := h0
  have lt0 : ∀ x ∈ p0, x.block < W.heap.size := by obtain ⟨m, hm⟩ := k0; exact DataW.trod_lt m _ _ _ hm
  obtain ⟨A0, n0, c0, rfl⟩ := okWide_slice Try.underlying27 (hval 0 27 v0 rfl rfl)
  obtain ⟨fuel0, hf0⟩ := h0
  obtain ⟨d0, hy0⟩ := arg_bytes Try.underlying27 Try.underlying5 (by kernel_rfl) hf0
  clear hA0 hval0
  refine (none02_any hy0).mono fun e W' ⟨he, hfr⟩ => ?_
  have bel : Below W.heap.size W W' := Fr0.below hfr
  subst he
  exact ⟨_, rfl, _, _, _, [], _, [], hW', trodAll_mk1 (shut_bool Try.underlying4 _), (trodAll_cons_mk (Below.trod laidOut (by kernel_rfl) (of_decide_eq_true (by kernel_rfl)) k0 bel lt0) trodAll_mk0), rfl, bel.frame _, fun h => by cases h⟩

theorem over : Rows.shaNoneRow.holds Try.pinned (OpenSpec.ofChange Rows.shaNoneSpec) :=
  OpenClaim.holds_of_wide 7 Try.f7 rfl rfl rfl rfl rfl rfl rfl ⟨rfl, rfl, rfl, rfl, rfl⟩ rfl rfl rfl rfl rfl (by kernel_rfl) Try.func7 (by kernel_rfl)
    (of_decide_eq_true (by kernel_rfl)) (by unfold Func.isWrapper; first | (rw [if_pos (by decide +kernel)]; kernel_rfl) | (rw [if_neg (by decide +kernel)]; exact ⟨rfl, rfl⟩))
    (fun os started H enc _ => lifted os started H enc)

theorem proved : Rows.ShaNoneSaid := over
#print axioms proved
end ShaNone
end Go.Proofs.Ytinajkhnfebgcaa
