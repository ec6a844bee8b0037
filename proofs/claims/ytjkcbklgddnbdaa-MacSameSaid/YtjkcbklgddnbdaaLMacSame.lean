/- MacSame: two texts are the same if they are as long, byte by byte: the law returns true for any texts. No condition. -/
import Derived.Test.YtjkcbklgddnbdaaMacKnown
import Derived.Test.YtjkcbklgddnbdaaStepsG
import Derived.Test.YtjkcbklgddnbdaaSlPut
import Derived.Test.YtjkcbklgddnbdaaArgsSized
import Derived.Test.YtjkcbklgddnbdaaWLits
import Derived.Handy
set_option linter.unusedSimpArgs false
namespace Go.Proofs.Ytjkcbklgddnbdaa
open Go.RowKit

set_option maxHeartbeats 4000000 in
set_option maxRecDepth 10000 in
theorem lsame_any {va vb : Value} {a b : List UInt8} {w : World} (ha : RdB w va a) (hb : RdB w vb b) (hla : a.length ≤ 140737488351232) : Calls Try.prog 4 #[va, vb] w fun e w' => e = .returned (.bool true) ∧ Fr0 w w' := by
  obtain ⟨Aa, ca, rfl, -, -, -⟩ := ha.form
  obtain ⟨Ab, cb, rfl, -, -, -⟩ := hb.form
  have HKN := Lib.hid (fun W => known03_any W)
  have HSM := Lib.hid (fun W (hf : Fr0 w W) => msame_any (ha.fr0 hf) (hb.fr0 hf))
  have HSS := Lib.hid (fun (W : World) (v : Value) (hf : Fr0 w W) (h : RdB W v a) => show Calls Try.prog 10 #[.slice Aa a.length ca, v] W (fun e w' => e = .returned (.bool true) ∧ Fr0 W w') from by
    refine (msame_any (ha.fr0 hf) h).mono ?_
    rintro e w' ⟨rfl, h2⟩
    exact ⟨by rw [show sameB a a = true from decide_eq_true rfl], h2⟩)
  have HCA := Lib.hid (fun W (hf : Fr0 w W) => conv_bytes W 22 9 5 Try.underlying22 Try.underlying5 Try.underlying9 (ha.fr0 hf))
  have HCB := Lib.hid (fun W (hf : Fr0 w W) => conv_bytes W 22 9 5 Try.underlying22 Try.underlying5 Try.underlying9 (hb.fr0 hf))
  have HEQ := Lib.hid (show ((str a).toList == (str b).toList) = sameB a b from by
    by_cases h : a = b
    · rw [show sameB a b = true from decide_eq_true h]; exact toList_beq_true (by rw [h])
    · rw [show sameB a b = false from decide_eq_false h]; exact toList_beq_false (fun e => h (str_inj e)))
  have HA := Lib.hid (show RdB w (.slice Aa a.length ca) a from ha)
  obtain ⟨sb, hsb⟩ : ∃ s, s = sameB a b := ⟨_, rfl⟩
  obtain ⟨na, hna⟩ : ∃ n, n = a.length := ⟨_, rfl⟩
  obtain ⟨nb, hnb⟩ : ∃ n, n = b.length := ⟨_, rfl⟩
  obtain ⟨xa, hxa⟩ : ∃ x, x = str a := ⟨_, rfl⟩
  obtain ⟨xb, hxb⟩ : ∃ x, x = str b := ⟨_, rfl⟩
  rw [← hsb] at HSM HEQ
  rw [← hna, ← hnb] at HSM
  rw [← hna] at HSS HCA HA hla ⊢
  rw [← hnb] at HCB ⊢
  rw [← hxa] at HCA HEQ
  rw [← hxb] at HCB HEQ
  have HNA := Lib.hid hna.symm
  have hsb2 : (sb == sb) = true := by cases sb <;> rfl
  clear ha hb hsb hna hnb hxa hxb
  go_enter Try.func4, Try.ntmps4
  go_wp2_with fail
  have UF := Lib.hid ((Fr0.refl w).drew)
  refine wp_region_held_drew (S := (fun W => Fr0 w W)) (by kernel_rfl) UF.out (fun hHeld => ?_)
  have _hI : True := trivial
  clear _hI
  refine takeH (i := 0) rfl (by kernel_rfl) (by kernel_rfl) (by kernel_rfl) (fun _ _ _ h => h) (.inl ⟨rfl, fun W hW => (by go_simp; try rfl)⟩) UF.out ?_
  try simp only [Act.put, List.setIfInBounds_toArray, List.set_cons_zero, List.set_cons_succ]
  have _hI : True := trivial
  clear _hI
  refine takeH (i := 1) rfl (by kernel_rfl) (by kernel_rfl) (by kernel_rfl) (fun _ _ _ h => h) (.inl ⟨rfl, fun W hW => (by go_simp; try rfl)⟩) UF.out ?_
  try simp only [Act.put, List.setIfInBounds_toArray, List.set_cons_zero, List.set_cons_succ]
  have _hI : True := trivial
  clear _hI
  refine takeH (i := 3) rfl (by kernel_rfl) (by kernel_rfl) (by kernel_rfl) (fun _ _ _ h => h) (.inl ⟨rfl, fun W hW => (by go_simp; try rfl)⟩) UF.out ?_
  try simp only [Act.put, List.setIfInBounds_toArray, List.set_cons_zero, List.set_cons_succ]
  have _hI : True := trivial
  clear _hI
  refine takeH (i := 4) rfl (by kernel_rfl) (by kernel_rfl) (by kernel_rfl) (fun _ _ _ h => h) (.inl ⟨rfl, fun W hW => (by have h1 := HCA.out W hW; go_simp; try rfl)⟩) UF.out ?_
  try simp only [Act.put, List.setIfInBounds_toArray, List.set_cons_zero, List.set_cons_succ]
  have _hI : True := trivial
  clear _hI
  refine takeH (i := 5) rfl (by kernel_rfl) (by kernel_rfl) (by kernel_rfl) (fun _ _ _ h => h) (.inl ⟨rfl, fun W hW => (by go_simp; try rfl)⟩) UF.out ?_
  try simp only [Act.put, List.setIfInBounds_toArray, List.set_cons_zero, List.set_cons_succ]
  have _hI : True := trivial
  clear _hI
  refine takeH (i := 6) rfl (by kernel_rfl) (by kernel_rfl) (by kernel_rfl) (fun _ _ _ h => h) (.inl ⟨rfl, fun W hW => (by have h1 := HCB.out W hW; go_simp; try rfl)⟩) UF.out ?_
  try simp only [Act.put, List.setIfInBounds_toArray, List.set_cons_zero, List.set_cons_succ]
  have _hI : True := trivial
  clear _hI
  refine takeH (i := 7) rfl (by kernel_rfl) (by kernel_rfl) (by kernel_rfl) (fun _ _ _ h => h) (v := .bool sb) (.inl ⟨rfl, fun W hW => (by have h1 := HEQ.out; go_simp; try rfl)⟩) UF.out ?_
  try simp only [Act.put, List.setIfInBounds_toArray, List.set_cons_zero, List.set_cons_succ]
  have _hI : True := trivial
  clear _hI
  refine wpAnyH_ready (rs := [2]) (by kernel_rfl) (by simp) (consG rfl rfl (fun K hK => ?_) AllReadyH.nil)
  have _hI : True := trivial
  clear _hI
  go_simp
  refine (HSM.out _ UF.out).mono ?_
  rintro e wn ⟨rfl, hf⟩
  replace UF := Lib.hid (Fr0.trans UF.out hf)
  clear hf
  refine hK.out _ _ UF.out ?_
  clear hK
  try simp only [Act.put, List.setIfInBounds_toArray, List.set_cons_zero, List.set_cons_succ]
  have _hI : True := trivial
  clear _hI
  refine takeH (i := 8) rfl (by kernel_rfl) (by kernel_rfl) (by kernel_rfl) (fun _ _ _ h => h) (v := .bool true) (.inl ⟨rfl, fun W hW => (by go_simp; try rfl)⟩) UF.out ?_
  try simp only [Act.put, List.setIfInBounds_toArray, List.set_cons_zero, List.set_cons_succ]
  have _hI : True := trivial
  clear _hI
  refine takeH (i := 9) rfl (by kernel_rfl) (by kernel_rfl) (by kernel_rfl) (fun _ _ _ h => h) (.inl ⟨rfl, fun W hW => (by go_simp; try rfl)⟩) UF.out ?_
  try simp only [Act.put, List.setIfInBounds_toArray, List.set_cons_zero, List.set_cons_succ]
  have _hI : True := trivial
  clear _hI
  refine takeH (i := 10) rfl (by kernel_rfl) (by kernel_rfl) (by kernel_rfl) (fun _ _ _ h => h) (.inl ⟨rfl, fun W hW => (by go_simp; try rfl)⟩) UF.out ?_
  try simp only [Act.put, List.setIfInBounds_toArray, List.set_cons_zero, List.set_cons_succ]
  have _hI : True := trivial
  clear _hI
  refine takeH (i := 12) rfl (by kernel_rfl) (by kernel_rfl) (by kernel_rfl) (fun _ _ _ h => h) (.inl ⟨rfl, fun W hW => (by go_simp; try rfl)⟩) UF.out ?_
  try simp only [Act.put, List.setIfInBounds_toArray, List.set_cons_zero, List.set_cons_succ]
  have _hI : True := trivial
  clear _hI
  refine wpAnyH_ready (rs := [11]) (by kernel_rfl) (by simp) (consG rfl rfl (fun K hK => ?_) AllReadyH.nil)
  have _hI : True := trivial
  clear _hI
  go_simp
  have U0 := UF
  obtain ⟨wo, hwo⟩ : ∃ x, x = wn := ⟨_, rfl⟩
  replace UF := Lib.hid ((UF.out).alloc (.cells #[] 5))
  clear hwo wo
  refine hK.out _ _ UF.out ?_
  clear hK
  try simp only [Act.put, List.setIfInBounds_toArray, List.set_cons_zero, List.set_cons_succ]
  have _hI : True := trivial
  clear _hI
  refine wpAnyH_ready (rs := [13]) (by kernel_rfl) (by simp) (consG rfl rfl (fun K hK => ?_) AllReadyH.nil)
  have _hI : True := trivial
  clear _hI
  refine wp_append_new (w0 := w) (e := a) _ _ rfl UF.out (Blk.new _ _ _) (U0.out).size rfl ((HA.out).fr0 UF.out) rfl (by rw [HNA.out]; exact hla) ?_
  intro A7 c7 w7 hS hF
  have S7 := Lib.hid hS
  replace UF := Lib.hid hF
  rw [show 0 + a.length = na from by rw [HNA.out]; exact Nat.zero_add _]
  rw [show a.length = na from HNA.out] at S7
  clear hS hF
  refine hK.out _ _ UF.out ?_
  clear hK
  try simp only [Act.put, List.setIfInBounds_toArray, List.set_cons_zero, List.set_cons_succ]
  have _hI : True := trivial
  clear _hI
  refine wpAnyH_ready (rs := [14]) (by kernel_rfl) (by simp) (consG rfl rfl (fun K hK => ?_) AllReadyH.nil)
  have _hI : True := trivial
  clear _hI
  go_simp
  refine (HSS.out _ _ UF.out S7.out).mono ?_
  rintro e wn ⟨rfl, hf⟩
  replace UF := Lib.hid (Fr0.trans UF.out hf)
  clear hf
  refine hK.out _ _ UF.out ?_
  clear hK
  try simp only [Act.put, List.setIfInBounds_toArray, List.set_cons_zero, List.set_cons_succ]
  have _hI : True := trivial
  clear _hI
  refine takeH (i := 15) rfl (by kernel_rfl) (by kernel_rfl) (by kernel_rfl) (fun _ _ _ h => h) (.inl ⟨rfl, fun W hW => (by go_simp; try rfl)⟩) UF.out ?_
  try simp only [Act.put, List.setIfInBounds_toArray, List.set_cons_zero, List.set_cons_succ]
  have _hI : True := trivial
  clear _hI
  refine takeH (i := 16) rfl (by kernel_rfl) (by kernel_rfl) (by kernel_rfl) (fun _ _ _ h => h) (.inl ⟨rfl, fun W hW => (by go_simp; try rfl)⟩) UF.out ?_
  try simp only [Act.put, List.setIfInBounds_toArray, List.set_cons_zero, List.set_cons_succ]
  have _hI : True := trivial
  clear _hI
  refine wpAnyH_ready (rs := [17]) (by kernel_rfl) (by simp) (consG rfl rfl (fun K hK => ?_) AllReadyH.nil)
  have _hI : True := trivial
  clear _hI
  go_simp
  refine (HKN.out _).mono ?_
  rintro e wn ⟨rfl, hf⟩
  replace UF := Lib.hid (Fr0.trans UF.out hf)
  clear hf
  refine hK.out _ _ UF.out ?_
  clear hK
  try simp only [Act.put, List.setIfInBounds_toArray, List.set_cons_zero, List.set_cons_succ]
  have _hI : True := trivial
  clear _hI
  refine takeH (i := 18) rfl (by kernel_rfl) (by kernel_rfl) (by kernel_rfl) (fun _ _ _ h => h) (.inl ⟨rfl, fun W hW => (by go_simp; try rfl)⟩) UF.out ?_
  try simp only [Act.put, List.setIfInBounds_toArray, List.set_cons_zero, List.set_cons_succ]
  have _hI : True := trivial
  clear _hI
  refine takeH (i := 19) rfl (by kernel_rfl) (by kernel_rfl) (by kernel_rfl) (fun _ _ _ h => h) (.inl ⟨rfl, fun W hW => (by go_simp; try rfl)⟩) UF.out ?_
  try simp only [Act.put, List.setIfInBounds_toArray, List.set_cons_zero, List.set_cons_succ]
  refine wpAnyH_done (by kernel_rfl) ?_ _
  go_wp2_with fail
  go_ret
  exact ⟨rfl, UF.out⟩
namespace MacSame
open Go.ChangeShapes Go.WideShapes Go.ChangeAt
open Go.ChangeMaps (open_string shut_string)

theorem own : ownKnob Try.prog.godebug = none := by kernel_rfl
theorem laidOut : laidOutB Try.prog = true := by kernel_rfl

set_option maxRecDepth 100000 in
theorem lifted (os : Os) (started : os.Started) (H : Type) (enc : TypeId × Value → H) :
    ReturnsInHanded {} Try.checked os 4 .any (Rows.macSameSpec.pre6 enc Try.prog Try.f4 Rows.macSameRow.domain false) (Rows.macSameSpec.post enc Try.prog Try.f4 false true false false) := by
  refine returnsInHanded_of_change_sized (C := Try.checked) own started (by kernel_rfl) Try.func4
    (ChangeSpec.witness6 (enc := enc) (C := Try.checked) false ⟨#[], #[.slice none 0 0, .slice none 0 0], []⟩ 8 (by kernel_rfl) (by kernel_rfl) (by kernel_rfl) (by kernel_rfl)) ?_
  intro W base args ds gs before hval0 hW hcnd hsz0 _
  have hsz : (DataW.weightsEach Try.prog (Try.f4.params.toList ++ Rows.macSameSpec.plain.varTypes Try.prog) (ds ++ gs)).all (· ≤ reachBytes) = true := hsz0
  clear hsz0
  have hval : ∀ (j : Nat) t v, Try.f4.params[j]? = some t → args[j]? = some v → Value.okWide Try.prog W .any base t v := hval0
  have hW' := hW
  obtain ⟨p, q, hA0, hV, rfl, hfz, hnd⟩ := hW
  have hA : DataW.TrodAll enc Try.prog W 0 (fun _ => true) true Try.f4.params.toList args.toList ds p := hA0
  rw [Try.params4] at hA hval hsz
  obtain ⟨v0, vs0, d0', ds0, p0, q0, hargs, rfl, rfl, h0, r0⟩ := trodAll_cons hA
  obtain ⟨v1, vs1, d1', ds1, p1, q1, rfl, rfl, rfl, h1, r1⟩ := trodAll_cons r0
  obtain ⟨rfl, rfl, rfl⟩ := trodAll_nil r1
  obtain rfl : args = #[v0, v1] := by cases args; simp_all
  obtain ⟨rfl, rfl⟩ := trodVars_none hV
  have k0 := h0
  have lt0 : ∀ x ∈ p0, x.block < W.heap.size := by obtain ⟨m, hm⟩ := k0; exact DataW.trod_lt m _ _ _ hm
  obtain ⟨A0, n0, c0, rfl⟩ := okWide_slice Try.underlying22 (hval 0 22 v0 rfl rfl)
  obtain ⟨fuel0, hf0⟩ := h0
  have hs0 := size_of_slice (j := 0) Try.underlying22 (by kernel_rfl) hsz rfl rfl hf0
  obtain ⟨d0, hy0⟩ := arg_bytes Try.underlying22 Try.underlying5 (by kernel_rfl) hf0
  have k1 := h1
  have lt1 : ∀ x ∈ p1, x.block < W.heap.size := by obtain ⟨m, hm⟩ := k1; exact DataW.trod_lt m _ _ _ hm
  obtain ⟨A1, n1, c1, rfl⟩ := okWide_slice Try.underlying22 (hval 1 22 v1 rfl rfl)
  obtain ⟨fuel1, hf1⟩ := h1
  obtain ⟨d1, hy1⟩ := arg_bytes Try.underlying22 Try.underlying5 (by kernel_rfl) hf1
  clear hA0 hval0
  refine (lsame_any hy0 hy1 (by rw [rdb_len hy0]; exact hs0)).mono fun e W' ⟨he, hfr⟩ => ?_
  have bel : Below W.heap.size W W' := Fr0.below hfr
  subst he
  exact ⟨_, rfl, _, _, _, [], _, [], hW', trodAll_mk1 (shut_bool Try.underlying4 _), (trodAll_cons_mk (Below.trod laidOut (by kernel_rfl) (of_decide_eq_true (by kernel_rfl)) k0 bel lt0) (trodAll_cons_mk (Below.trod laidOut (by kernel_rfl) (of_decide_eq_true (by kernel_rfl)) k1 bel lt1) trodAll_mk0)), rfl, bel.frame _, fun h => by cases h⟩

theorem over : Rows.macSameRow.holds Try.pinned (OpenSpec.ofChange Rows.macSameSpec) :=
  OpenClaim.holds_of_wide 4 Try.f4 rfl rfl rfl rfl rfl rfl rfl ⟨rfl, rfl, rfl, rfl, rfl⟩ rfl rfl rfl rfl rfl (by kernel_rfl) Try.func4 (by kernel_rfl)
    (of_decide_eq_true (by kernel_rfl)) (by unfold Func.isWrapper; first | (rw [if_pos (by decide +kernel)]; kernel_rfl) | (rw [if_neg (by decide +kernel)]; exact ⟨rfl, rfl⟩))
    (fun os started H enc _ => lifted os started H enc)

theorem proved : Rows.MacSameSaid := over
#print axioms proved
end MacSame
end Go.Proofs.Ytjkcbklgddnbdaa
