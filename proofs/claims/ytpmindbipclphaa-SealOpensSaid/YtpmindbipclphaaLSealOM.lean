/- SealOpens: any bytes are opened as the document says, or refused, and their nonce is told: the law returns true for any key and bytes. No condition. -/
import Derived.Test.YtpmindbipclphaaSealJ3
set_option linter.unusedSimpArgs false
set_option linter.unusedVariables false
namespace Go.Proofs.Ytpmindbipclphaa
open Go.RowKit

set_option maxHeartbeats 4000000 in
set_option maxRecDepth 100000 in
theorem sealOpens_any {code mark b : List UInt8} {v : Value} {w : World} (hc : code.length = 16) (hm : mark.length = 32) (hb : RdB w v b) :
    Calls Try.prog 7 #[.agg (byts (code ++ mark)).toArray, v] w fun e w' => e = .returned (.bool true) ∧ Fr0 w w' := by
  obtain ⟨Ab, cb, rfl, -, -, -⟩ := hb.form
  have KN := Lib.hid known06_any
  have HO := Lib.hid (fun W (hf : Fr0 w W) => open_all (code := code) (mark := mark) hc hm (hb.fr0 hf))
  have HRO := Lib.hid (fun W (hf : Fr0 w W) => ropen_all (code := code) (mark := mark) hc hm (hb.fr0 hf))
  have HP := Lib.hid (fun W (hf : Fr0 w W) => peek_all (hb.fr0 hf))
  have HRP := Lib.hid (fun W (hf : Fr0 w W) => rpeek_all (hb.fr0 hf))
  have FX := Lib.hid ((Fr0.refl w).alloc (.cells (byts (code ++ mark)).toArray 34))
  have BK := Lib.hid (Blk.new w (byts (code ++ mark)).toArray 34)
  have HCK := Lib.hid (show (Try.prog.info? 34).map (·.size) = some (byts (code ++ mark)).toArray.size by rw [byts_size, List.length_append, hc, hm]; kernel_rfl)
  obtain ⟨nb, hnb⟩ : ∃ n, n = b.length := ⟨_, rfl⟩
  rw [← hnb] at HO HRO HP HRP ⊢
  obtain ⟨p, hp⟩ : ∃ p, p = openP code mark b := ⟨_, rfl⟩
  rw [← hp] at HO HRO
  obtain ⟨⟨D, N⟩, T, E⟩ := p
  obtain ⟨q, hq⟩ : ∃ p, p = peekP b := ⟨_, rfl⟩
  rw [← hq] at HP HRP
  obtain ⟨⟨PD, PN⟩, PE⟩ := q
  obtain ⟨ck, hck⟩ : ∃ c, c = (byts (code ++ mark)).toArray := ⟨_, rfl⟩
  rw [← hck] at BK HCK FX HO HRO ⊢
  obtain ⟨nt, hnt⟩ : ∃ n, n = T.length := ⟨_, rfl⟩
  simp only [] at HO HRO HP HRP
  rw [← hnt] at HO HRO
  have HTL := Lib.hid hnt
  unfold nonceV at HO HRO HP HRP
  by_cases h1 : 1500 < nb
  · have t1 : decide ((1500 : Int) < (nb : Int)) = true := decide_eq_true (by omega)
    clear h1 hck hc hm hnt hb hp hq hnb HO HRO HP HRP
    go_enter Try.func7, Try.ntmps7
    go_wp2_with (go_at_call 13; refine (KN.out _).mono ?_; rintro e w1 ⟨rfl, hf⟩; have F1 := Lib.hid (Fr0.trans FX.out hf); clear hf)
    go_ret
    exact ⟨rfl, F1.out⟩
  have t1 : decide ((1500 : Int) < (nb : Int)) = false := decide_eq_false (by omega)
  clear h1 hck hc hm hnt hb hp hq hnb
  go_enter Try.func7, Try.ntmps7
  go_wp2_with (first
    | (have _q := F4; go_at_call 20; refine (HRP.out _ F4.out).mono ?_; rintro e w5 ⟨rfl, hf⟩; have fa := Fr0.trans hf ((Fr0.refl w5).alloc (.cells #[.bool PD, .int .u64 (PN : Int)] 24)); have N5 := Blk.new w5 #[.bool PD, .int .u64 (PN : Int)] 24; have N4 := (Q4.out).fr0 fa; have N3 := (Z3.out).fr0 fa; have N2 := (X3.out).fr0 fa; have n50 := N5.cell 0 rfl; have n51 := N5.cell 1 rfl; have n40 := N4.cell 0 rfl; have n41 := N4.cell 1 rfl; have n30 := N3.cell 0 rfl; have n31 := N3.cell 1 rfl; have n20 := N2.cell 0 rfl; have n21 := N2.cell 1 rfl; have cs1 := conv_ownN HTL.out.symm (RdB.fr0 R2.out fa); have cs2 := conv_ownN HTL.out.symm (RdB.fr0 R3.out fa); have F5 := Lib.hid (Fr0.trans F4.out fa); clear hf fa N5 N4 N3 N2)
    | (have _q := F3; go_at_call 19; refine (HP.out _ F3.out).mono ?_; rintro e w4 ⟨rfl, hf⟩; have fa := Fr0.trans hf ((Fr0.refl w4).alloc (.cells #[.bool PD, .int .u64 (PN : Int)] 24)); have Q4 := Lib.hid (Blk.new w4 #[.bool PD, .int .u64 (PN : Int)] 24); replace Z3 := Lib.hid ((Z3.out).fr0 fa); replace X3 := Lib.hid ((X3.out).fr0 fa); replace R2 := Lib.hid (RdB.fr0 R2.out fa); replace R3 := Lib.hid (RdB.fr0 R3.out fa); have F4 := Lib.hid (Fr0.trans F3.out fa); clear hf fa)
    | (have _q := F2; go_at_call 18; refine (HRO.out _ F2.out).mono ?_; rintro e w3 ⟨A3, c3, rfl, hr0, hf⟩; have hr := hr0.rd; have fa := Fr0.trans hf ((Fr0.refl w3).alloc (.cells #[.bool D, .int .u64 (N : Int)] 24)); have Z3 := Lib.hid (Blk.new w3 #[.bool D, .int .u64 (N : Int)] 24); have X3 := Lib.hid ((X2.out).fr0 fa); have R3 := Lib.hid (hr.fr0 ((Fr0.refl w3).alloc (.cells #[.bool D, .int .u64 (N : Int)] 24))); replace R2 := Lib.hid (RdB.fr0 R2.out fa); have F3 := Lib.hid (Fr0.trans F2.out fa); clear hf fa hr hr0)
    | (have _q := F1; go_at_call 16; refine (HO.out _ F1.out).mono ?_; rintro e w2 ⟨A2, c2, rfl, hr0, hf⟩; have hr := hr0.rd; have fa := Fr0.trans hf ((Fr0.refl w2).alloc (.cells #[.bool D, .int .u64 (N : Int)] 24)); have X2 := Lib.hid (Blk.new w2 #[.bool D, .int .u64 (N : Int)] 24); have R2 := Lib.hid (hr.fr0 ((Fr0.refl w2).alloc (.cells #[.bool D, .int .u64 (N : Int)] 24))); have K2 := Lib.hid ((K1.out).fr0 fa); have F2 := Lib.hid (Fr0.trans F1.out fa); clear hf fa hr hr0)
    | (go_at_call 13; refine (KN.out _).mono ?_; rintro e w1 ⟨rfl, hf⟩; have F1 := Lib.hid (Fr0.trans FX.out hf); have K1 := Lib.hid ((BK.out).fr0 hf); clear hf)
    | (have _q := K2; refine list_load_blk rfl 34 _ rfl w.heap.size rfl 34 ck K2.out _ Try.underlying34 rfl HCK.out ?_)
    | (have _q := K1; refine list_load_blk rfl 34 _ rfl w.heap.size rfl 34 ck K1.out _ Try.underlying34 rfl HCK.out ?_))
  go_ret
  exact ⟨rfl, F5.out⟩
namespace SealOpens
open Go.ChangeShapes Go.WideShapes Go.ChangeAt
open Go.ChangeMaps (open_string shut_string)

theorem own : ownKnob Try.prog.godebug = none := by kernel_rfl
theorem laidOut : laidOutB Try.prog = true := by kernel_rfl

set_option maxRecDepth 100000 in
theorem lifted (os : Os) (started : os.Started) (H : Type) (enc : TypeId × Value → H) :
    ReturnsInHanded {} Try.checked os 7 .any (Rows.sealOpensSpec.pre6 enc Try.prog Try.f7 Rows.sealOpensRow.domain false) (Rows.sealOpensSpec.post enc Try.prog Try.f7 false true false false) := by
  refine returnsInHanded_of_change (C := Try.checked) own started (by kernel_rfl) Try.func7
    (ChangeSpec.witness6 (enc := enc) (C := Try.checked) false ⟨#[], #[.agg (Array.replicate 48 (.int .u8 0)), .slice none 0 0], []⟩ 8 (by kernel_rfl) (by kernel_rfl) (by kernel_rfl) (by kernel_rfl)) ?_
  intro W base args ds gs before hval0 hW hcnd _
  have hval : ∀ (j : Nat) t v, Try.f7.params[j]? = some t → args[j]? = some v → Value.okWide Try.prog W .any base t v := hval0
  have hW' := hW
  obtain ⟨p, q, hA0, hV, rfl, hfz, hnd⟩ := hW
  have hA : DataW.TrodAll enc Try.prog W 0 (fun _ => true) true Try.f7.params.toList args.toList ds p := hA0
  rw [Try.params7] at hA hval
  obtain ⟨v0, vs0, d0', ds0, p0, q0, hargs, rfl, rfl, h0, r0⟩ := trodAll_cons hA
  obtain ⟨v1, vs1, d1', ds1, p1, q1, rfl, rfl, rfl, h1, r1⟩ := trodAll_cons r0
  obtain ⟨rfl, rfl, rfl⟩ := trodAll_nil r1
  obtain rfl : args = #[v0, v1] := by cases args; simp_all
  obtain ⟨rfl, rfl⟩ := trodVars_none hV
  have k0 := h0
  have lt0 : ∀ x ∈ p0, x.block < W.heap.size := by obtain ⟨m, hm⟩ := k0; exact DataW.trod_lt m _ _ _ hm
  obtain ⟨code0, mark0, rfl, hc0, hm0⟩ := arg_key (hval 0 34 v0 rfl rfl) h0
  have k1 := h1
  have lt1 : ∀ x ∈ p1, x.block < W.heap.size := by obtain ⟨m, hm⟩ := k1; exact DataW.trod_lt m _ _ _ hm
  obtain ⟨A1, n1, c1, rfl⟩ := okWide_slice Try.underlying35 (hval 1 35 v1 rfl rfl)
  obtain ⟨fuel1, hf1⟩ := h1
  obtain ⟨d1, hy1⟩ := arg_bytes Try.underlying35 Try.underlying5 (by kernel_rfl) hf1
  clear hA0 hval0
  refine (sealOpens_any hc0 hm0 hy1).mono fun e W' ⟨he, hfr⟩ => ?_
  have bel : Below W.heap.size W W' := Fr0.below hfr
  subst he
  exact ⟨_, rfl, _, _, _, [], _, [], hW', trodAll_mk1 (shut_bool Try.underlying4 _), (trodAll_cons_mk (Below.trod laidOut (by kernel_rfl) (of_decide_eq_true (by kernel_rfl)) k0 bel lt0) (trodAll_cons_mk (Below.trod laidOut (by kernel_rfl) (of_decide_eq_true (by kernel_rfl)) k1 bel lt1) trodAll_mk0)), rfl, bel.frame _, fun h => by cases h⟩

theorem over : Rows.sealOpensRow.holds Try.pinned (OpenSpec.ofChange Rows.sealOpensSpec) :=
  OpenClaim.holds_of_wide 7 Try.f7 rfl rfl rfl rfl rfl rfl rfl ⟨rfl, rfl, rfl, rfl, rfl⟩ rfl rfl rfl rfl rfl (by kernel_rfl) Try.func7 (by kernel_rfl)
    (of_decide_eq_true (by kernel_rfl)) (by unfold Func.isWrapper; first | (rw [if_pos (by decide +kernel)]; kernel_rfl) | (rw [if_neg (by decide +kernel)]; exact ⟨rfl, rfl⟩))
    (fun os started H enc _ => lifted os started H enc)

theorem proved : Rows.SealOpensSaid := over
#print axioms proved
end SealOpens
end Go.Proofs.Ytpmindbipclphaa
