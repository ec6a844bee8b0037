/- InstrReads: any bytes are an instruction, or refused, as the document says; the bytes stay: the law returns true for every bytes and every number of noughts behind them. No condition. -/
import Derived.Test.YtkgjmfmnkcfabaaInstrBack
import Derived.Test.YtkgjmfmnkcfabaaIRefRead
import Derived.Test.YtkgjmfmnkcfabaaAppZeros
import Derived.Deep.RegionHeldLaw
namespace Go.Proofs.Ytkgjmfmnkcfabaa
open Go.RowKit

/-- Both Reads answer alike. -/
theorem reads_both {D : List UInt8} (hn : D.length ≤ 1000000) : ∃ (o n a t ev : Int) (rs : List UInt8), (∀ (v : Value) (w : World), RdB w v D →
    Calls Try.prog 8 #[v] w fun e w' => ∃ A c, e = .returned (.tuple #[.agg #[.int .i64 o, .int .i64 n, .int .i64 a, .int .i64 t, .slice A rs.length c], .int .i64 ev]) ∧ RdB w' (.slice A rs.length c) rs ∧ Fr0 w w') ∧ (∀ (v : Value) (w : World), RdB w v D →
    Calls Try.prog 9 #[v] w fun e w' => ∃ A c, e = .returned (.tuple #[.agg #[.int .i64 o, .int .i64 n, .int .i64 a, .int .i64 t, .slice A rs.length c], .int .i64 ev]) ∧ RdB w' (.slice A rs.length c) rs ∧ Fr0 w w') := by
  by_cases hg : iGood D
  · refine ⟨numI (iNums D).1.1, numI (iNums D).1.1 + numI (iNums D).1.2.1, numI (iNums D).1.2.2.1, numI (iNums D).1.1 - numI (iNums D).1.2.2.2, 0, (iNums D).2.1, fun v w hr => (iread_any hr hn).mono ?_, fun v w hr => (refRead_any hr hn).mono ?_⟩
    · rintro e w' ⟨hf, ⟨h, -⟩ | ⟨-, A, c, rfl, hr⟩⟩
      · exact absurd hg h
      · exact ⟨A, c, rfl, hr, hf⟩
    · rintro e w' ⟨hf, ⟨h, -⟩ | ⟨-, A, c, rfl, hr⟩⟩
      · exact absurd hg h
      · exact ⟨A, c, rfl, hr, hf⟩
  · refine ⟨0, 0, 0, 0, 4, [], fun v w hr => (iread_any hr hn).mono ?_, fun v w hr => (refRead_any hr hn).mono ?_⟩
    · rintro e w' ⟨hf, ⟨-, rfl⟩ | ⟨h, -⟩⟩
      · exact ⟨none, 0, rfl, RdB.nil _, hf⟩
      · exact absurd h hg
    · rintro e w' ⟨hf, ⟨-, rfl⟩ | ⟨h, -⟩⟩
      · exact ⟨none, 0, rfl, RdB.nil _, hf⟩
      · exact absurd h hg
theorem own_prefix {w : World} {base : Nat} {A : Option Addr} {c m : Nat} {d : List UInt8} (h : w.ownsRow base 5 1 (.slice A (d.length + m) c) (d.length + m) (byts (d ++ List.replicate m 0))) : RdB w (.slice A d.length c) d := by
  have := (Rd.of_own h).take (k := d.length) (by omega) rfl
  rw [byts_take, List.take_left] at this
  exact this

set_option maxHeartbeats 2000000 in
set_option maxRecDepth 100000 in
theorem instrReads_any {vb : Value} {d : List UInt8} {more : Int} {w : World} (hb : RdB w vb d) (hi1 : -9223372036854775808 ≤ more) (hi2 : more ≤ 9223372036854775807) :
    Calls Try.prog 3 #[vb, .int .i64 more] w fun e w' => e = .returned (.bool true) ∧ Fr0 w w' := by
  obtain ⟨Ab, cb, rfl, hnb, -, -⟩ := hb.form
  have b63 := hb.le63
  have KN := Lib.hid (known22_any w)
  by_cases hx2 : 3000 < d.length
  · have q0 : decide (3000 < (d.length : Int)) = true := by simp; omega
    have q1 : decide (3000 < d.length) = true := by simpa using hx2
    clear hb
    go_enter Try.func3, Try.ntmps3
    go_wp2_with (go_at_call 7; refine (KN.out).mono ?_; rintro e w1 ⟨rfl, hf⟩; have F := Lib.hid hf; clear hf)
    go_ret
    exact ⟨rfl, F.out⟩
  by_cases hm1 : more < 0
  · have q0 : decide (3000 < (d.length : Int)) = false := by simp; omega
    have q1 : decide (3000 < d.length) = false := by simpa using hx2
    have q2 : decide (more < 0) = true := by simpa using hm1
    clear hb
    go_enter Try.func3, Try.ntmps3
    go_wp2_with (go_at_call 7; refine (KN.out).mono ?_; rintro e w1 ⟨rfl, hf⟩; have F := Lib.hid hf; clear hf)
    go_ret
    exact ⟨rfl, F.out⟩
  by_cases hm2 : 70000 < more
  · have q0 : decide (3000 < (d.length : Int)) = false := by simp; omega
    have q1 : decide (3000 < d.length) = false := by simpa using hx2
    have q2 : decide (more < 0) = false := by simp; omega
    have q3 : decide (70000 < more) = true := by simpa using hm2
    clear hb
    go_enter Try.func3, Try.ntmps3
    go_wp2_with (go_at_call 7; refine (KN.out).mono ?_; rintro e w1 ⟨rfl, hf⟩; have F := Lib.hid hf; clear hf)
    go_ret
    exact ⟨rfl, F.out⟩
  obtain ⟨m, rfl⟩ : ∃ m : Nat, more = m := ⟨more.toNat, by omega⟩
  have q0 : decide (3000 < (d.length : Int)) = false := by simp; omega
  have q1 : decide (3000 < d.length) = false := by simpa using hx2
  have q2 : decide ((m : Int) < 0) = false := decide_eq_false (by omega)
  have q3 : decide (70000 < (m : Int)) = false := by simp; omega
  have q4 : decide (70000 < m) = false := by simp; omega
  have hm3 : m ≤ 70000 := by omega
  have hd3 : d.length ≤ 3000 := by omega
  have i0 : (0 : Int) ≤ (d.length : Int) := by omega
  have D0 := Lib.hid hb
  obtain ⟨o, n, a, t, ev, rs, h1, h2⟩ := reads_both (D := d ++ List.replicate m 0) (by simp; omega)
  have R1 := Lib.hid h1
  have R2 := Lib.hid h2
  clear hb hx2 hm1 hm2 h1 h2
  go_enter Try.func3, Try.ntmps3
  go_upto_region 8 with (first
    | (go_at_call 7; refine (KN.out).mono ?_; rintro e w1 ⟨rfl, hf⟩; have F := Lib.hid hf; clear hf)
    | (at_builtin; have _q := X4; refine app_bytes rfl _ _ rfl (L1 := []) (w0 := (w4.alloc (.cells #[.int .i64 o, .int .i64 n, .int .i64 a, .int .i64 t, .slice A4 rs.length c4] 25))) ((Fr0.refl (w4.alloc (.cells #[.int .i64 o, .int .i64 n, .int .i64 a, .int .i64 t, .slice A4 rs.length c4] 25))).alloc _) (own_empty (g := w4.heap.size + 1) (by have := heap_alloc_new (w4.alloc (.cells #[.int .i64 o, .int .i64 n, .int .i64 a, .int .i64 t, .slice A4 rs.length c4] 25)) (.cells #[] 5); simpa using this) (by simp)) (by rfl) (((D0.out).fr0 (X4F.out)).fr0 ((Fr0.refl (w4.alloc (.cells #[.int .i64 o, .int .i64 n, .int .i64 a, .int .i64 t, .slice A4 rs.length c4] 25))).alloc _)) (by rfl) (by omega) ?_; intro A5 c5 w5 hown hf; rw [Nat.zero_add, List.nil_append] at hown; have O5 := Lib.hid hown; have F5 := Lib.hid hf; clear hown hf)
    | (at_builtin; have _q := O5; refine app_zeros rfl _ _ rfl (F5.out) (O5.out) (by rfl) (by rfl) (by omega) ?_; intro A6 c6 w6 hown hf; have O6 := Lib.hid hown; have F6 := Lib.hid hf; clear hown hf)
    | (at_builtin; refine app_bytes rfl _ _ rfl (L1 := []) (w0 := w1) ((Fr0.refl w1).alloc _) (own_empty (g := w1.heap.size) (by have := heap_alloc_new w1 (.cells #[] 5); simpa using this) (by simp)) (by rfl) ((D0.out).fr0 ((F.out).alloc _)) (by rfl) (by omega) ?_; intro A2 c2 w2 hown hf; rw [Nat.zero_add, List.nil_append] at hown; have O2 := Lib.hid hown; have F2 := Lib.hid hf; clear hown hf)
    | (at_builtin; have _q := O2; refine app_zeros rfl _ _ rfl (F2.out) (O2.out) (by rfl) (by rfl) (by omega) ?_; intro A3 c3 w3 hown hf; have O3 := Lib.hid hown; have F3 := Lib.hid hf; clear hown hf)
    | (go_at_call 8; refine ((R1.out) _ _ (rdb_of (Rd.of_own O3.out))).mono ?_; rintro e w4 ⟨A4, c4, rfl, hr, hf⟩; have X4R := Lib.hid hr; have G4 := Lib.hid hf; have X4F := Lib.hid ((((F.out).trans F3.out).trans hf).alloc (.cells #[.int .i64 o, .int .i64 n, .int .i64 a, .int .i64 t, .slice A4 rs.length c4] 25)); have X4 := Lib.hid (Blk.new w4 #[.int .i64 o, .int .i64 n, .int .i64 a, .int .i64 t, .slice A4 rs.length c4] 25); clear hr hf)
    | (go_at_call 9; refine ((R2.out) _ _ (rdb_of (Rd.of_own O6.out))).mono ?_; rintro e w7 ⟨A7, c7, rfl, hr, hf⟩; have X7R := Lib.hid hr; have G7 := Lib.hid hf; have X7 := Lib.hid (Blk.new w7 #[.int .i64 o, .int .i64 n, .int .i64 a, .int .i64 t, .slice A7 rs.length c7] 25); clear hr hf))
  have hc3 : d.length ≤ c3 := by obtain ⟨A', c', hv, h1, -, -⟩ := own_form O3.out; injection hv with _ _ hc; omega
  have hsl : ∀ w', (Instr.slice 22 (.slice A3 (d.length + m) c3) none (some (.int .i64 (d.length : Int))) none).run Try.prog w' = .ok (.slice A3 d.length c3) w' := fun w' => slice_to Try.underlying22 (fun _ => by kernel_rfl) (by omega) w'
  have FA := Lib.hid (Fr0.trans (F6.out) (G7.out))
  have P3 := Lib.hid ((((own_prefix O3.out).fr0 ((G4.out).alloc (.cells #[.int .i64 o, .int .i64 n, .int .i64 a, .int .i64 t, .slice A4 rs.length c4] 25))).fr0 FA.out).fr0 ((Fr0.refl w7).alloc (.cells #[.int .i64 o, .int .i64 n, .int .i64 a, .int .i64 t, .slice A7 rs.length c7] 25)))
  have D7 := Lib.hid ((((D0.out).fr0 X4F.out).fr0 FA.out).fr0 ((Fr0.refl w7).alloc (.cells #[.int .i64 o, .int .i64 n, .int .i64 a, .int .i64 t, .slice A7 rs.length c7] 25)))
  have FW := Lib.hid (((X4F.out).trans FA.out).alloc (.cells #[.int .i64 o, .int .i64 n, .int .i64 a, .int .i64 t, .slice A7 rs.length c7] 25))
  have BX := Lib.hid (((X4.out).fr0 FA.out).alloc (.cells #[.int .i64 o, .int .i64 n, .int .i64 a, .int .i64 t, .slice A7 rs.length c7] 25))
  have RX := Lib.hid ((((X4R.out).fr0 ((Fr0.refl w4).alloc (.cells #[.int .i64 o, .int .i64 n, .int .i64 a, .int .i64 t, .slice A4 rs.length c4] 25))).fr0 FA.out).fr0 ((Fr0.refl w7).alloc (.cells #[.int .i64 o, .int .i64 n, .int .i64 a, .int .i64 t, .slice A7 rs.length c7] 25)))
  have RY := Lib.hid ((X7R.out).fr0 ((Fr0.refl w7).alloc (.cells #[.int .i64 o, .int .i64 n, .int .i64 a, .int .i64 t, .slice A7 rs.length c7] 25)))
  have Q := Lib.hid ((Fr0.refl (w7.alloc (.cells #[.int .i64 o, .int .i64 n, .int .i64 a, .int .i64 t, .slice A7 rs.length c7] 25))).drew)
  clear O2 F2 F3 O3 O5 F5 O6 F6 G4 G7 X4R X4F X7R FA X4 D0 F
  go_region_held_law (fun w' => (convert 22 9 (.slice A3 d.length c3)).run Try.prog w' = .ok (.string (str d)) w' ∧ (convert 22 9 (.slice Ab d.length cb)).run Try.prog w' = .ok (.string (str d)) w' ∧ w'.cell? ⟨w4.heap.size, 0, none⟩ = some (.int .i64 o) ∧ w'.cell? ⟨w4.heap.size, 1, none⟩ = some (.int .i64 n) ∧ w'.cell? ⟨w4.heap.size, 2, none⟩ = some (.int .i64 a) ∧ w'.cell? ⟨w4.heap.size, 3, none⟩ = some (.int .i64 t) ∧ w'.cell? ⟨w4.heap.size, 4, none⟩ = some (.slice A4 rs.length c4) ∧ w'.cell? ⟨w7.heap.size, 0, none⟩ = some (.int .i64 o) ∧ w'.cell? ⟨w7.heap.size, 1, none⟩ = some (.int .i64 n) ∧ w'.cell? ⟨w7.heap.size, 2, none⟩ = some (.int .i64 a) ∧ w'.cell? ⟨w7.heap.size, 3, none⟩ = some (.int .i64 t) ∧ w'.cell? ⟨w7.heap.size, 4, none⟩ = some (.slice A7 rs.length c7)) (first | exact ⟨conv_own ((P3.out).fr0 Q.out), conv_own ((D7.out).fr0 Q.out), ((BX.out).fr0 Q.out).cell 0 rfl, ((BX.out).fr0 Q.out).cell 1 rfl, ((BX.out).fr0 Q.out).cell 2 rfl, ((BX.out).fr0 Q.out).cell 3 rfl, ((BX.out).fr0 Q.out).cell 4 rfl, ((X7.out).fr0 Q.out).cell 0 rfl, ((X7.out).fr0 Q.out).cell 1 rfl, ((X7.out).fr0 Q.out).cell 2 rfl, ((X7.out).fr0 Q.out).cell 3 rfl, ((X7.out).fr0 Q.out).cell 4 rfl⟩) (first
    | (go_at_call 10; refine (refSame_any ((RX.out).fr0 Q.out) ((RY.out).fr0 Q.out)).mono ?_; rintro e w8 ⟨he, hf⟩; rw [alike_self] at he; subst he; replace Q := Lib.hid ((Q.out).trans hf); clear hf))
  all_goals (go_wp2_with fail; go_ret; exact ⟨rfl, (FW.out).trans Q.out⟩)

namespace InstrReads
open Go.ChangeShapes Go.WideShapes Go.ChangeAt
open Go.ChangeMaps (open_string shut_string)

theorem own : ownKnob Try.prog.godebug = none := by kernel_rfl
theorem laidOut : laidOutB Try.prog = true := by kernel_rfl

set_option maxRecDepth 100000 in
theorem lifted (os : Os) (started : os.Started) (H : Type) (enc : TypeId × Value → H) :
    ReturnsInHanded {} Try.checked os 3 .any (Rows.instrReadsSpec.pre6 enc Try.prog Try.f3 Rows.instrReadsRow.domain false) (Rows.instrReadsSpec.post enc Try.prog Try.f3 false true false false) := by
  refine returnsInHanded_of_change (C := Try.checked) own started (by kernel_rfl) Try.func3
    (ChangeSpec.witness6 (enc := enc) (C := Try.checked) false ⟨#[], #[.slice none 0 0, .int .i64 0], []⟩ 8 (by kernel_rfl) (by kernel_rfl) (by kernel_rfl) (by kernel_rfl)) ?_
  intro W base args ds gs before hval0 hW hcnd _
  have hval : ∀ (j : Nat) t v, Try.f3.params[j]? = some t → args[j]? = some v → Value.okWide Try.prog W .any base t v := hval0
  have hW' := hW
  obtain ⟨p, q, hA0, hV, rfl, hfz, hnd⟩ := hW
  have hA : DataW.TrodAll enc Try.prog W 0 (fun _ => true) true Try.f3.params.toList args.toList ds p := hA0
  rw [Try.params3] at hA hval
  obtain ⟨v0, vs0, d0', ds0, p0, q0, hargs, rfl, rfl, h0, r0⟩ := trodAll_cons hA
  obtain ⟨v1, vs1, d1', ds1, p1, q1, rfl, rfl, rfl, h1, r1⟩ := trodAll_cons r0
  obtain ⟨rfl, rfl, rfl⟩ := trodAll_nil r1
  obtain rfl : args = #[v0, v1] := by cases args; simp_all
  obtain ⟨rfl, rfl⟩ := trodVars_none hV
  have k0 := h0
  have lt0 : ∀ x ∈ p0, x.block < W.heap.size := by obtain ⟨m, hm⟩ := k0; exact DataW.trod_lt m _ _ _ hm
  obtain ⟨A0, n0, c0, rfl⟩ := okWide_slice Try.underlying22 (hval 0 22 v0 rfl rfl)
  obtain ⟨fuel0, hf0⟩ := h0
  obtain ⟨d0, hy0⟩ := arg_bytes Try.underlying22 Try.underlying5 (by kernel_rfl) hf0
  obtain ⟨n1, rfl, rfl, rfl, hn1⟩ := open_int Try.underlying3 (hval 1 3 v1 rfl rfl) h1
  have hm1 := lit_i64 hn1
  clear hA0 hval0
  refine (instrReads_any hy0 hm1.1 hm1.2).mono fun e W' ⟨he, hfr⟩ => ?_
  have bel : Below W.heap.size W W' := Fr0.below hfr
  subst he
  exact ⟨_, rfl, _, _, _, [], _, [], hW', trodAll_mk1 (shut_bool Try.underlying4 _), (trodAll_cons_mk (Below.trod laidOut (by kernel_rfl) (of_decide_eq_true (by kernel_rfl)) k0 bel lt0) (trodAll_cons_mk (shut_int Try.underlying3 hn1) trodAll_mk0)), rfl, bel.frame _, fun h => by cases h⟩

theorem over : Rows.instrReadsRow.holds Try.pinned (OpenSpec.ofChange Rows.instrReadsSpec) :=
  OpenClaim.holds_of_wide 3 Try.f3 rfl rfl rfl rfl rfl rfl rfl ⟨rfl, rfl, rfl, rfl, rfl⟩ rfl rfl rfl rfl rfl (by kernel_rfl) Try.func3 (by kernel_rfl)
    (of_decide_eq_true (by kernel_rfl)) (by unfold Func.isWrapper; first | (rw [if_pos (by decide +kernel)]; kernel_rfl) | (rw [if_neg (by decide +kernel)]; exact ⟨rfl, rfl⟩))
    (fun os started H enc _ => lifted os started H enc)

theorem proved : Rows.InstrReadsSaid := over
#print axioms proved
end InstrReads
end Go.Proofs.Ytkgjmfmnkcfabaa
