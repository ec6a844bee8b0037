/- SealSeals: the packet of any text is the document's, or refused, and what is handed in stays: the law returns true for any key, nonce and text. No condition. -/
import Derived.Test.YtpmindbipclphaaSealJ3
import Derived.Test.YtpmindbipclphaaSealJ2
set_option linter.unusedSimpArgs false
set_option linter.unusedVariables false
namespace Go.Proofs.Ytpmindbipclphaa
open Go.RowKit

set_option maxHeartbeats 4000000 in
set_option maxRecDepth 100000 in
theorem sealSeals_any {code mark text : List UInt8} {dn : Bool} {n : Nat} {tv : Value} {w : World} (hc : code.length = 16) (hm : mark.length = 32) (hn : n < 18446744073709551616) (ht : RdB w tv text) :
    Calls Try.prog 4 #[.agg (byts (code ++ mark)).toArray, nonceV dn n, tv] w fun e w' => e = .returned (.bool true) ∧ Fr0 w w' := by
  obtain ⟨At, ct, rfl, -, -, -⟩ := ht.form
  have KN := Lib.hid known06_any
  have HT := Lib.hid ht
  have l63 := Rd.le63 ht
  have HSL := Lib.hid (fun W (h : 1300 < text.length) (hf : Fr0 w W) => seal_long (code := code) (mark := mark) (dn := false) (n := n % 9) (by omega) (ht.fr0 hf) (by omega))
  have HS0 := Lib.hid (fun W A c (hr : RdB W (.slice A text.length c) text) => seal_any (dn := dn) hc hm hn hr)
  have HR0 := Lib.hid (fun W (hf : Fr0 w W) => rseal_any (dn := dn) hc hm hn (ht.fr0 hf))
  obtain ⟨nt, hnt⟩ : ∃ n, n = text.length := ⟨_, rfl⟩
  rw [← hnt] at HT HSL HS0 HR0 l63 ⊢
  have HTL := Lib.hid hnt
  obtain ⟨p, hp⟩ : ∃ p, p = sealP code mark dn n text := ⟨_, rfl⟩
  rw [← hp] at HS0 HR0
  obtain ⟨P, E⟩ := p
  simp only [] at HS0 HR0
  obtain ⟨m, hmm⟩ : ∃ n, n = P.length := ⟨_, rfl⟩
  rw [← hmm] at HS0 HR0
  have HPL := Lib.hid hmm
  have HS := Lib.hid (fun W A c (hr : RdB W (.slice A nt c) text) => (HS0.out W A c hr).mono (R' := fun e w' => ∃ A c, e = .returned (.tuple #[.slice A m c, .int .i64 E]) ∧ RdB w' (.slice A m c) P ∧ Fr0 W w') (by
    rintro e w' ⟨v, rfl, ho, hf⟩
    rw [HPL.out] at ho
    have r := RdB.of_own ho
    obtain ⟨A, c, rfl, -, -, -⟩ := r.form
    rw [← HPL.out] at r ⊢
    exact ⟨A, c, rfl, r, hf⟩))
  have HR := Lib.hid (fun W (hf : Fr0 w W) => (HR0.out W hf).mono (R' := fun e w' => ∃ A c, e = .returned (.tuple #[.slice A m c, .int .i64 E]) ∧ RdB w' (.slice A m c) P ∧ Fr0 W w') (by
    rintro e w' ⟨v, rfl, ho, hf⟩
    rw [HPL.out] at ho
    have r := RdB.of_own ho
    obtain ⟨A, c, rfl, -, -, -⟩ := r.form
    rw [← HPL.out] at r ⊢
    exact ⟨A, c, rfl, r, hf⟩))
  obtain ⟨wa, hwa⟩ : ∃ W, W = (w.alloc (.cells (byts (code ++ mark)).toArray 34)).alloc (.cells #[.bool dn, .int .u64 (n : Int)] 24) := ⟨_, rfl⟩
  have FX := Lib.hid (show Fr0 w wa by rw [hwa]; exact ((Fr0.refl w).alloc _).alloc _)
  have BK := Lib.hid (show Blk wa w.heap.size (byts (code ++ mark)).toArray 34 by rw [hwa]; exact (Blk.new w _ 34).alloc _)
  have BX := Lib.hid (show Blk wa (w.heap.size + 1) #[.bool dn, .int .u64 (n : Int)] 24 by rw [hwa]; have := Blk.new (w.alloc (.cells (byts (code ++ mark)).toArray 34)) #[.bool dn, .int .u64 (n : Int)] 24; rw [World.size_alloc] at this; exact this)
  have HCK := Lib.hid (show (Try.prog.info? 34).map (·.size) = some (byts (code ++ mark)).toArray.size by rw [byts_size, List.length_append, hc, hm]; kernel_rfl)
  obtain ⟨ck, hck⟩ : ∃ c, c = (byts (code ++ mark)).toArray := ⟨_, rfl⟩
  rw [← hck] at BK HCK HSL HS HR hwa ⊢
  unfold nonceV at HSL HS HR ⊢
  by_cases h1 : 1300 < nt
  · have t1 : decide ((1300 : Int) < (nt : Int)) = true := decide_eq_true (by omega)
    have HSL2 := Lib.hid (fun W hf => HSL.out W h1 hf)
    obtain ⟨r, hr⟩ : ∃ r, r = n % 9 := ⟨_, rfl⟩
    rw [← hr] at HSL2
    have r1 : (n : Int).tmod 9 = (r : Int) := by rw [Int.tmod_eq_emod_of_nonneg (by omega), hr]; omega
    have r2 : (n : Int) % 9 = (r : Int) := by omega
    have r3 : IntKind.u64.wrap (r : Int) = (r : Int) := by rw [IntKind.wrap_u64]; omega
    clear h1 hck hc hm hnt ht hp hmm HS HR HS0 HR0 HSL hr hn
    subst hwa
    go_enter Try.func4, Try.ntmps4
    go_wp2_with (first
      | (have _q := F1; go_at_call 14; refine (HSL2.out _ F1.out).mono ?_; rintro e w2 ⟨rfl, hf⟩; have F2 := Lib.hid (Fr0.trans F1.out hf); clear hf)
      | (go_at_call 13; refine (KN.out _).mono ?_; rintro e w1 ⟨rfl, hf⟩; have F1 := Lib.hid (Fr0.trans FX.out hf); have K1 := Lib.hid ((BK.out).fr0 hf); have x0 := ((BX.out).fr0 hf).cell 0 rfl; have x1 := ((BX.out).fr0 hf).cell 1 rfl; clear hf)
      | (have _q := K1; refine list_load_blk rfl 34 _ rfl w.heap.size rfl 34 ck K1.out _ Try.underlying34 rfl HCK.out ?_))
    go_ret
    exact ⟨rfl, F2.out⟩
  have t1 : decide ((1300 : Int) < (nt : Int)) = false := decide_eq_false (by omega)
  have HN3 := Lib.hid (show nt ≤ 1300 by omega)
  clear h1 hck hc hm hnt ht hp hmm HSL HS0 HR0 hn
  subst hwa
  go_enter Try.func4, Try.ntmps4
  go_wp2_with (first
    | (have _q := F3; go_at_call 15; refine (HR.out _ F3.out).mono ?_; rintro e w4 ⟨A4, c4, rfl, hr, hf⟩; have cs1 := conv_ownN HPL.out.symm (RdB.fr0 R3.out hf); have cs2 := conv_ownN HPL.out.symm hr; have cs3 := conv_ownN HTL.out.symm (((S3.out).rd).fr0 hf); have F4 := Lib.hid (Fr0.trans F3.out hf); have cs4 := conv_ownN HTL.out.symm (RdB.fr0 HT.out F4.out); clear hf hr)
    | (have _q := F2; go_at_call 14; refine (HS.out _ _ _ (S2.out).rd).mono ?_; rintro e w3 ⟨A3, c3, rfl, hr, hf⟩; have R3 := Lib.hid hr; have S3 := Lib.hid ((S2.out).fr0 hf); have K3 := Lib.hid ((K2.out).fr0 hf); have X3 := Lib.hid ((X2.out).fr0 hf); have x0 := (X3.out).cell 0 rfl; have x1 := (X3.out).cell 1 rfl; have F3 := Lib.hid (Fr0.trans F2.out hf); clear hf hr)
    | (have _q := F1; at_builtin; refine list_append_sl (base := w.heap.size) (d := []) (e := text) rfl _ _ rfl (SlO.new0 (F1.out).size) rfl (by have := (F1.out).size; rw [World.size_alloc]; omega) (RdB.fr0 HT.out ((F1.out).alloc _)) rfl (by rw [← HTL.out]; simp; have := HN3.out; omega) ?_; intro A2 c2 w2 hS hF hK; have S2 := Lib.hid (show SlO w.heap.size w2 (.slice A2 nt c2) text from by have h := hS; rw [List.nil_append, ← HTL.out] at h; exact h); have F2 := Lib.hid ((SlO.new0 (F1.out).size).thenFr ((F1.out).alloc _) hF); have K2 := Lib.hid (((K1.out).alloc _).fr hF (fun hk => (SlO.new0 (F1.out).size).ne ((K1.out).alloc _) (by decide) _ hk rfl)); have X2 := Lib.hid (((X1.out).alloc _).fr hF (fun hk => (SlO.new0 (F1.out).size).ne ((X1.out).alloc _) (by decide) _ hk rfl)); have x0 := (X2.out).cell 0 rfl; have x1 := (X2.out).cell 1 rfl; rw [show ([] : List UInt8).length + text.length = nt from by rw [← HTL.out]; exact Nat.zero_add _]; clear hS hF hK)
    | (go_at_call 13; refine (KN.out _).mono ?_; rintro e w1 ⟨rfl, hf⟩; have F1 := Lib.hid (Fr0.trans FX.out hf); have K1 := Lib.hid ((BK.out).fr0 hf); have X1 := Lib.hid ((BX.out).fr0 hf); clear hf)
    | (have _q := K3; refine list_load_blk rfl 34 _ rfl w.heap.size rfl 34 ck K3.out _ Try.underlying34 rfl HCK.out ?_)
    | (have _q := K2; refine list_load_blk rfl 34 _ rfl w.heap.size rfl 34 ck K2.out _ Try.underlying34 rfl HCK.out ?_))
  go_ret
  exact ⟨rfl, F4.out⟩
namespace SealSeals
open Go.ChangeShapes Go.WideShapes Go.ChangeAt
open Go.ChangeMaps (open_string shut_string)

theorem own : ownKnob Try.prog.godebug = none := by kernel_rfl
theorem laidOut : laidOutB Try.prog = true := by kernel_rfl

set_option maxRecDepth 100000 in
theorem lifted (os : Os) (started : os.Started) (H : Type) (enc : TypeId × Value → H) :
    ReturnsInHanded {} Try.checked os 4 .any (Rows.sealSealsSpec.pre6 enc Try.prog Try.f4 Rows.sealSealsRow.domain false) (Rows.sealSealsSpec.post enc Try.prog Try.f4 false true false false) := by
  refine returnsInHanded_of_change (C := Try.checked) own started (by kernel_rfl) Try.func4
    (ChangeSpec.witness6 (enc := enc) (C := Try.checked) false ⟨#[], #[.agg (Array.replicate 48 (.int .u8 0)), .agg #[.bool false, .int .u64 0], .slice none 0 0], []⟩ 8 (by kernel_rfl) (by kernel_rfl) (by kernel_rfl) (by kernel_rfl)) ?_
  intro W base args ds gs before hval0 hW hcnd _
  have hval : ∀ (j : Nat) t v, Try.f4.params[j]? = some t → args[j]? = some v → Value.okWide Try.prog W .any base t v := hval0
  have hW' := hW
  obtain ⟨p, q, hA0, hV, rfl, hfz, hnd⟩ := hW
  have hA : DataW.TrodAll enc Try.prog W 0 (fun _ => true) true Try.f4.params.toList args.toList ds p := hA0
  rw [Try.params4] at hA hval
  obtain ⟨v0, vs0, d0', ds0, p0, q0, hargs, rfl, rfl, h0, r0⟩ := trodAll_cons hA
  obtain ⟨v1, vs1, d1', ds1, p1, q1, rfl, rfl, rfl, h1, r1⟩ := trodAll_cons r0
  obtain ⟨v2, vs2, d2', ds2, p2, q2, rfl, rfl, rfl, h2, r2⟩ := trodAll_cons r1
  obtain ⟨rfl, rfl, rfl⟩ := trodAll_nil r2
  obtain rfl : args = #[v0, v1, v2] := by cases args; simp_all
  obtain ⟨rfl, rfl⟩ := trodVars_none hV
  have k0 := h0
  have lt0 : ∀ x ∈ p0, x.block < W.heap.size := by obtain ⟨m, hm⟩ := k0; exact DataW.trod_lt m _ _ _ hm
  obtain ⟨code0, mark0, rfl, hc0, hm0⟩ := arg_key (hval 0 34 v0 rfl rfl) h0
  have k1 := h1
  have lt1 : ∀ x ∈ p1, x.block < W.heap.size := by obtain ⟨m, hm⟩ := k1; exact DataW.trod_lt m _ _ _ hm
  obtain ⟨dn1, n1, rfl, hn1⟩ := arg_nonce (hval 1 24 v1 rfl rfl) h1
  have k2 := h2
  have lt2 : ∀ x ∈ p2, x.block < W.heap.size := by obtain ⟨m, hm⟩ := k2; exact DataW.trod_lt m _ _ _ hm
  obtain ⟨A2, n2, c2, rfl⟩ := okWide_slice Try.underlying35 (hval 2 35 v2 rfl rfl)
  obtain ⟨fuel2, hf2⟩ := h2
  obtain ⟨d2, hy2⟩ := arg_bytes Try.underlying35 Try.underlying5 (by kernel_rfl) hf2
  clear hA0 hval0
  refine (sealSeals_any hc0 hm0 hn1 hy2).mono fun e W' ⟨he, hfr⟩ => ?_
  have bel : Below W.heap.size W W' := Fr0.below hfr
  subst he
  exact ⟨_, rfl, _, _, _, [], _, [], hW', trodAll_mk1 (shut_bool Try.underlying4 _), (trodAll_cons_mk (Below.trod laidOut (by kernel_rfl) (of_decide_eq_true (by kernel_rfl)) k0 bel lt0) (trodAll_cons_mk (Below.trod laidOut (by kernel_rfl) (of_decide_eq_true (by kernel_rfl)) k1 bel lt1) (trodAll_cons_mk (Below.trod laidOut (by kernel_rfl) (of_decide_eq_true (by kernel_rfl)) k2 bel lt2) trodAll_mk0))), rfl, bel.frame _, fun h => by cases h⟩

theorem over : Rows.sealSealsRow.holds Try.pinned (OpenSpec.ofChange Rows.sealSealsSpec) :=
  OpenClaim.holds_of_wide 4 Try.f4 rfl rfl rfl rfl rfl rfl rfl ⟨rfl, rfl, rfl, rfl, rfl⟩ rfl rfl rfl rfl rfl (by kernel_rfl) Try.func4 (by kernel_rfl)
    (of_decide_eq_true (by kernel_rfl)) (by unfold Func.isWrapper; first | (rw [if_pos (by decide +kernel)]; kernel_rfl) | (rw [if_neg (by decide +kernel)]; exact ⟨rfl, rfl⟩))
    (fun os started H enc _ => lifted os started H enc)

theorem proved : Rows.SealSealsSaid := over
#print axioms proved
end SealSeals
end Go.Proofs.Ytpmindbipclphaa
