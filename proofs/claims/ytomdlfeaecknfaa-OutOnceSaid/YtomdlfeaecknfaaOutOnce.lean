/- OutOnce: what was asked at a time, and told, is not told again at that time; a state is told neither, nor again, a time later that is less than the gap: the law returns true for every things and numbers. No condition. -/
import Derived.Test.YtomdlfeaecknfaaOutEv
import Derived.Test.YtomdlfeaecknfaaWLits
namespace Go.Proofs.Ytomdlfeaecknfaa
open Go.RowKit

set_option maxHeartbeats 4000000 in
set_option maxRecDepth 100000 in
theorem outOnce_any {v : Value} {l : List OpD} {now wait ack later : Int} {w : World} (hv : Rd w 5 v l.length (flat opC l)) (hl : ∀ x ∈ l, OpIn x) :
    Calls Try.prog 3 #[v, .int .i64 now, .int .i64 wait, .int .i64 ack, .int .i64 later] w fun e w' => e = .returned (.bool true) ∧ Fr0 w w' := by
  have l63 := hv.le63
  obtain ⟨Av, cv, rfl, -, -, -⟩ := hv.form
  have KN := Lib.hid (known23_any w)
  by_cases hg : l.length ≤ 150 ∧ 0 ≤ now ∧ now ≤ 1073741824 ∧ 0 ≤ ack ∧ ack ≤ 100 ∧ 0 ≤ later ∧ later ≤ 19
  · obtain ⟨g1, g2, g3, g4, g5, g6, g7⟩ := hg
    have HV := Lib.hid hv
    have HL := Lib.hid hl
    obtain ⟨L, hL⟩ : ∃ L, L = l.length := ⟨_, rfl⟩
    rw [← hL] at g1 l63 ⊢
    have HLn := Lib.hid hL
    clear hv hl hL
    go_enter Try.func3, Try.ntmps3
    go_wp2_with (first
      | (go_at_call 8; refine (KN.out).mono ?_; rintro e w1 ⟨rfl, hf⟩; have F1 := Lib.hid hf; clear hf)
      | (go_at_call 10; refine (texts_any _).mono ?_; rintro e w2 ⟨rfl, hf⟩; have F2 := Lib.hid (Fr0.trans F1.out hf); clear hf)
      | (go_at_call 9; refine (onew_any sameFn diffFn _ _).mono ?_; rintro e w3 ⟨p, A0, c0, rfl, ho, hp, hf⟩; have O3 := Lib.hid ho; have F3 := Lib.hid (Fr0.trans F2.out hf); have PP := Lib.hid (Nat.le_trans (F2.out).size hp); clear ho hp hf))
    go_loopw [12] (fun v12 wr => ∃ (k : Nat) (o : OutD) (A : Option Addr) (c : Nat), k ≤ L ∧ v12 = .int .i64 k ∧ Fr0 w wr ∧ OutV wr p (.func (.func 23) #[] #[]) (.func (.func 24) #[] #[]) A c o ∧ Hid (OutOk o ∧ Small 60 o)) (fun v12 _ => L - (intOf v12).toNat)
    case atStart => exact ⟨0, _, _, _, Nat.zero_le _, rfl, F3.out, O3.out, Lib.hid ⟨new_ok _, small_new (by simp [ByteArray.size])⟩⟩
    case round =>
      obtain ⟨k, o, A, c, hk, rfl, hf, ho, hs⟩ := hrel
      have F := Lib.hid hf
      have O := Lib.hid ho
      have S := hs
      clear hf ho hs F1 F2 F3 O3
      by_cases hlt : k < L
      · have hlo : k < l.length := by rw [← HLn.out]; exact hlt
        obtain ⟨g, off, c', hvv, d0, d1, d2, d3, d4⟩ := op_cells ((HV.out).fr0 F.out) hlo
        obtain rfl : Av = some ⟨g, off, none⟩ := by injection hvv
        have hin := (HL.out) _ (List.getElem_mem hlo)
        obtain ⟨x, hx⟩ : ∃ x, x = l[k] := ⟨_, rfl⟩
        rw [← hx] at d0 d1 d2 d3 d4 hin
        obtain ⟨⟨b1, b2⟩, hin⟩ := hin
        unfold maxLen at hin
        have i0 : (0 : Int) ≤ (k : Int) := by omega
        have i1 : (k : Int) < (L : Int) := by omega
        have OPOS := Lib.hid ((S.out).1.pos)
        have HX := Lib.hid hx
        clear hvv hx
        by_cases hsz : 60 < x.s.size
        · have q0 : decide (60 < (x.s.size : Int)) = true := by simp; omega
          have q1 : decide (60 < x.s.size) = true := by simpa using hsz
          clear hsz
          go_wp2_with fail
          go_ret
          exact ⟨rfl, F.out⟩
        · have q0 : decide (60 < (x.s.size : Int)) = false := by simp; omega
          have q1 : decide (60 < x.s.size) = false := by simpa using hsz
          have hz := Lib.hid hsz
          clear hsz
          by_cases k0 : x.kind = 0
          · have e0 : (x.kind == 0) = true := by simpa using k0
            clear k0
            go_wp2_with (go_at_call 11; refine (oset_any O.out OPOS.out x.s).mono ?_; rintro e w4 ⟨rfl, hf, ho⟩; have O4 := Lib.hid ho; have F4 := Lib.hid (Fr0.new F.out hf PP.out); clear hf ho)
            go_roundw
            case measure => simp [intOf]; omega
            case rel => first | exact ⟨k + 1, _, _, _, by omega, by go_num, F4.out, O4.out, Lib.hid ⟨set_ok (S.out).1 _, small_set (S.out).2 (by have := hz.out; omega)⟩⟩ | ((repeat apply Exists.intro); exact ⟨⟨k + 1, _, _, _, by omega, by go_num, F4.out, O4.out, Lib.hid ⟨set_ok (S.out).1 _, small_set (S.out).2 (by have := hz.out; omega)⟩⟩, rfl⟩)
          · have e0 : (x.kind == 0) = false := by simpa using k0
            by_cases k1 : x.kind = 1
            · have e1 : (x.kind == 1) = true := by simpa using k1
              have NS := Lib.hid (fun (w' : World) (h : Fr0 w w') => show w'.cell? ⟨g, off + k * 5 + 1, none⟩ = some (.int .i64 x.now) ∧ w'.cell? ⟨g, off + k * 5 + 2, none⟩ = some (.int .i64 x.wait) ∧ w'.cell? ⟨g, off + k * 5 + 3, none⟩ = some (.int .i64 x.n) from by obtain ⟨g', off', c'', hv', -, u1, u2, u3, -⟩ := op_cells ((HV.out).fr0 h) (by rw [← HLn.out]; exact hlt); injection hv' with hA; injection hA with hA; injection hA with hg ho; subst hg ho; rw [← HX.out] at u1 u2 u3; exact ⟨u1, u2, u3⟩)
              clear k0 k1
              go_upto_region 17 with (fail)
              have Q := Lib.hid ((F.out).drew)
              have OQ := Lib.hid ((O.out).fr0 ((Fr0.refl wr).drew))
              go_region_held_law (fun w' => w'.cell? ⟨g, off + k * 5 + 1, none⟩ = some (.int .i64 x.now) ∧ w'.cell? ⟨g, off + k * 5 + 2, none⟩ = some (.int .i64 x.wait) ∧ w'.cell? ⟨g, off + k * 5 + 3, none⟩ = some (.int .i64 x.n)) (first | with_reducible exact NS.out _ Q.out | with_reducible exact NS.out _ F4.out) ((go_at_call 12; refine (tell_g sameFn diffFn OQ.out (S.out).1 (small_up (S.out).2 (by decide)) x.now x.wait x.n).mono ?_; rintro e w4 ⟨ok, ta, tb, tm, tr, Ad, tn, cd, A4, c4, rfl, hf, ho, hr⟩; have O4 := Lib.hid ho; have F4 := Lib.hid (Fr0.new Q.out hf PP.out); clear hf ho hr))
              go_wp2_with fail
              go_roundw
              case measure => simp [intOf]; omega
              case rel => first | exact ⟨k + 1, _, _, _, by omega, by go_num, F4.out, O4.out, Lib.hid ⟨told_ok (S.out).1 _ _ _, small_told (S.out).2 (S.out).1 _ _ _⟩⟩ | ((repeat apply Exists.intro); exact ⟨⟨k + 1, _, _, _, by omega, by go_num, F4.out, O4.out, Lib.hid ⟨told_ok (S.out).1 _ _ _, small_told (S.out).2 (S.out).1 _ _ _⟩⟩, rfl⟩)
            · have e1 : (x.kind == 1) = false := by simpa using k1
              by_cases k2 : x.kind = 2
              · have e2 : (x.kind == 2) = true := by simpa using k2
                clear k0 k1 k2
                go_wp2_with (go_at_call 13; refine (oheard_any O.out OPOS.out (by have := (S.out).1.le; omega) x.n).mono ?_; rintro e w4 ⟨rfl, hf, A4, c4, ho⟩; have O4 := Lib.hid ho; have F4 := Lib.hid (Fr0.new F.out hf PP.out); clear hf ho)
                go_roundw
                case measure => simp [intOf]; omega
                case rel => first | exact ⟨k + 1, _, _, _, by omega, by go_num, F4.out, O4.out, Lib.hid ⟨heard_ok (S.out).1 _, small_heard (S.out).2 _⟩⟩ | ((repeat apply Exists.intro); exact ⟨⟨k + 1, _, _, _, by omega, by go_num, F4.out, O4.out, Lib.hid ⟨heard_ok (S.out).1 _, small_heard (S.out).2 _⟩⟩, rfl⟩)
              · have e2 : (x.kind == 2) = false := by simpa using k2
                clear k0 k1 k2
                go_wp2_with fail
                go_roundw
                case measure => simp [intOf]; omega
                case rel => first | exact ⟨k + 1, _, _, _, by omega, by go_num, F.out, O.out, Lib.hid ⟨(S.out).1, (S.out).2⟩⟩ | ((repeat apply Exists.intro); exact ⟨⟨k + 1, _, _, _, by omega, by go_num, F.out, O.out, Lib.hid ⟨(S.out).1, (S.out).2⟩⟩, rfl⟩)
      · obtain rfl : k = L := by omega
        have SM := Lib.hid (small_up (C := 100000) (S.out).2 (by decide))
        cases ht : tellP o now wait ack with
        | none =>
          have HT := Lib.hid ht
          clear ht
          go_wp2_with (go_at_call 12; refine (tell_k0 sameFn diffFn O.out (S.out).1 (SM.out).2 (SM.out).1 HT.out).mono ?_; rintro e w4 ⟨A4, c4, rfl, hf, ho⟩; have F4 := Lib.hid (Fr0.new F.out hf PP.out); clear hf ho)
          go_ret
          exact ⟨rfl, (F4.out).alloc _⟩
        | some t =>
          have HT := Lib.hid ht
          have OK2 := Lib.hid (show OutOk (afterP o now ack t) by have := told_ok (S.out).1 now wait ack; unfold toldP at this; rw [ht] at this; exact this)
          have SM2 := Lib.hid (show Small 60 (afterP o now ack t) by have := small_told (S.out).2 (S.out).1 now wait ack; unfold toldP at this; rw [ht] at this; exact this)
          have ON := Lib.hid (tell_once (s := ⟨#[97, 110, 111, 116, 104, 101, 114]⟩) (S.out).1 (later := later) ⟨g6, g7⟩ ht)
          clear ht
          obtain ⟨told0, hto⟩ : ∃ x, x = t.old := ⟨_, rfl⟩
          obtain ⟨tn, htn⟩ : ∃ x, x = t.new := ⟨_, rfl⟩
          have HTT := Lib.hid (tell_t sameFn diffFn O.out (S.out).1 SM.out HT.out)
          rw [← hto, ← htn] at HTT ON
          have OP2 := Lib.hid ((OK2.out).pos)
          have SM3 := Lib.hid (small_up (C := 100000) (small_set (s := ⟨#[97, 110, 111, 116, 104, 101, 114]⟩) SM2.out (by decide)) (by decide))
          clear hto htn
          by_cases hno : tn = told0
          · have b0 : (tn == told0) = true := by simpa using hno
            have ON2 := Lib.hid (show tellP (withNow (afterP o now ack t) ⟨#[97, 110, 111, 116, 104, 101, 114]⟩) now wait ack = none by have := ON.out; rw [if_pos hno, Int.add_zero] at this; exact this)
            clear hno ON
            go_wp2_with (first
              | (have _q := O7; go_at_call 14; refine (onewest_any O7.out OP2.out).mono ?_; rintro e w8 ⟨rfl, n8, hw⟩; have F8 := Lib.hid (show Fr0 w w8 by rw [hw]; exact (F7.out).drewN n8); clear hw)
              | (have _q := O6; go_at_call 12; refine (tell_k0 sameFn diffFn O6.out (set_ok OK2.out _) (SM3.out).2 (SM3.out).1 ON2.out).mono ?_; rintro e w7 ⟨A7, c7, rfl, hf, ho⟩; have O7 := Lib.hid (ho.fr0 ((Fr0.refl w7).alloc (.cells #[.int .i64 0, .int .i64 0, .int .i64 0, .int .i64 0, .slice none 0 0] 37))); have F7 := Lib.hid ((Fr0.new F6.out hf PP.out).alloc (.cells #[.int .i64 0, .int .i64 0, .int .i64 0, .int .i64 0, .slice none 0 0] 37)); clear hf ho)
              | (go_at_call 14; refine (onewest_any O5.out OP2.out).mono ?_; rintro e w6 ⟨rfl, n6, hw⟩; have O6 := Lib.hid (show OutV w6 p _ _ _ _ _ by rw [hw]; exact (O5.out).fr0 ((Fr0.refl _).drewN n6)); have F6 := Lib.hid (show Fr0 w w6 by rw [hw]; exact (F5.out).drewN n6); clear hw)
              | (go_at_call 12; refine (HTT.out).mono ?_; rintro e w4 ⟨A4, c4, Ad, cd, rfl, hf, ho, -, -⟩; have O4 := Lib.hid (ho.fr0 ((Fr0.refl w4).alloc (.cells #[.int .i64 told0, .int .i64 tn, .int .i64 ack, .int .i64 (baseS o.all).n, .slice Ad t.d.length cd] 37))); have F4 := Lib.hid ((Fr0.new F.out hf PP.out).alloc (.cells #[.int .i64 told0, .int .i64 tn, .int .i64 ack, .int .i64 (baseS o.all).n, .slice Ad t.d.length cd] 37)); clear hf ho)
              | (go_at_call 11; refine (oset_any O4.out OP2.out _).mono ?_; rintro e w5 ⟨rfl, hf, ho⟩; have O5 := Lib.hid ho; have F5 := Lib.hid (Fr0.new F4.out hf PP.out); clear hf ho))
            go_ret
            exact ⟨rfl, F8.out⟩
          · have b0 : (tn == told0) = false := by simpa using hno
            have ON2 := Lib.hid (show tellP (withNow (afterP o now ack t) ⟨#[97, 110, 111, 116, 104, 101, 114]⟩) (now + later) wait ack = none by have := ON.out; rw [if_neg hno] at this; exact this)
            clear hno ON
            go_wp2_with (first
              | (have _q := O7; go_at_call 14; refine (onewest_any O7.out OP2.out).mono ?_; rintro e w8 ⟨rfl, n8, hw⟩; have F8 := Lib.hid (show Fr0 w w8 by rw [hw]; exact (F7.out).drewN n8); clear hw)
              | (have _q := O6; go_at_call 12; refine (tell_k0 sameFn diffFn O6.out (set_ok OK2.out _) (SM3.out).2 (SM3.out).1 ON2.out).mono ?_; rintro e w7 ⟨A7, c7, rfl, hf, ho⟩; have O7 := Lib.hid (ho.fr0 ((Fr0.refl w7).alloc (.cells #[.int .i64 0, .int .i64 0, .int .i64 0, .int .i64 0, .slice none 0 0] 37))); have F7 := Lib.hid ((Fr0.new F6.out hf PP.out).alloc (.cells #[.int .i64 0, .int .i64 0, .int .i64 0, .int .i64 0, .slice none 0 0] 37)); clear hf ho)
              | (go_at_call 14; refine (onewest_any O5.out OP2.out).mono ?_; rintro e w6 ⟨rfl, n6, hw⟩; have O6 := Lib.hid (show OutV w6 p _ _ _ _ _ by rw [hw]; exact (O5.out).fr0 ((Fr0.refl _).drewN n6)); have F6 := Lib.hid (show Fr0 w w6 by rw [hw]; exact (F5.out).drewN n6); clear hw)
              | (go_at_call 12; refine (HTT.out).mono ?_; rintro e w4 ⟨A4, c4, Ad, cd, rfl, hf, ho, -, -⟩; have O4 := Lib.hid (ho.fr0 ((Fr0.refl w4).alloc (.cells #[.int .i64 told0, .int .i64 tn, .int .i64 ack, .int .i64 (baseS o.all).n, .slice Ad t.d.length cd] 37))); have F4 := Lib.hid ((Fr0.new F.out hf PP.out).alloc (.cells #[.int .i64 told0, .int .i64 tn, .int .i64 ack, .int .i64 (baseS o.all).n, .slice Ad t.d.length cd] 37)); clear hf ho)
              | (go_at_call 11; refine (oset_any O4.out OP2.out _).mono ?_; rintro e w5 ⟨rfl, hf, ho⟩; have O5 := Lib.hid ho; have F5 := Lib.hid (Fr0.new F4.out hf PP.out); clear hf ho))
            go_ret
            exact ⟨rfl, F8.out⟩
  · have hcase : 150 < l.length ∨ (l.length ≤ 150 ∧ now < 0) ∨ (l.length ≤ 150 ∧ 0 ≤ now ∧ 1073741824 < now) ∨ (l.length ≤ 150 ∧ 0 ≤ now ∧ now ≤ 1073741824 ∧ ack < 0) ∨ (l.length ≤ 150 ∧ 0 ≤ now ∧ now ≤ 1073741824 ∧ 0 ≤ ack ∧ 100 < ack) ∨ (l.length ≤ 150 ∧ 0 ≤ now ∧ now ≤ 1073741824 ∧ 0 ≤ ack ∧ ack ≤ 100 ∧ later < 0) ∨ (l.length ≤ 150 ∧ 0 ≤ now ∧ now ≤ 1073741824 ∧ 0 ≤ ack ∧ ack ≤ 100 ∧ 0 ≤ later ∧ 19 < later) := by omega
    clear hg hv hl
    rcases hcase with h1 | ⟨h1, h2⟩ | ⟨h1, h2, h3⟩ | ⟨h1, h2, h3, h4⟩ | ⟨h1, h2, h3, h4, h5⟩ | ⟨h1, h2, h3, h4, h5, h6⟩ | ⟨h1, h2, h3, h4, h5, h6, h7⟩
    all_goals
      go_enter Try.func3, Try.ntmps3
      go_wp2_with (go_at_call 8; refine (KN.out).mono ?_; rintro e w1 ⟨rfl, hf⟩; have F := Lib.hid hf; clear hf)
      go_ret
      exact ⟨rfl, F.out⟩

namespace OutOnce
open Go.ChangeShapes Go.WideShapes Go.ChangeAt
open Go.ChangeMaps (open_string shut_string)

theorem own : ownKnob Try.prog.godebug = none := by kernel_rfl
theorem laidOut : laidOutB Try.prog = true := by kernel_rfl

set_option maxRecDepth 100000 in
theorem lifted (os : Os) (started : os.Started) (H : Type) (enc : TypeId × Value → H) :
    ReturnsInHanded {} Try.checked os 3 .any (Rows.outOnceSpec.pre6 enc Try.prog Try.f3 Rows.outOnceRow.domain false) (Rows.outOnceSpec.post enc Try.prog Try.f3 false true false false) := by
  refine returnsInHanded_of_change (C := Try.checked) own started (by kernel_rfl) Try.func3
    (ChangeSpec.witness6 (enc := enc) (C := Try.checked) false ⟨#[], #[.slice none 0 0, .int .i64 0, .int .i64 0, .int .i64 0, .int .i64 0], []⟩ 8 (by kernel_rfl) (by kernel_rfl) (by kernel_rfl) (by kernel_rfl)) ?_
  intro W base args ds gs before hval0 hW hcnd _
  have hval : ∀ (j : Nat) t v, Try.f3.params[j]? = some t → args[j]? = some v → Value.okWide Try.prog W .any base t v := hval0
  have hW' := hW
  obtain ⟨p, q, hA0, hV, rfl, hfz, hnd⟩ := hW
  have hA : DataW.TrodAll enc Try.prog W 0 (fun _ => true) true Try.f3.params.toList args.toList ds p := hA0
  rw [Try.params3] at hA hval
  obtain ⟨v0, vs0, d0', ds0, p0, q0, hargs, rfl, rfl, h0, r0⟩ := trodAll_cons hA
  obtain ⟨v1, vs1, d1', ds1, p1, q1, rfl, rfl, rfl, h1, r1⟩ := trodAll_cons r0
  obtain ⟨v2, vs2, d2', ds2, p2, q2, rfl, rfl, rfl, h2, r2⟩ := trodAll_cons r1
  obtain ⟨v3, vs3, d3', ds3, p3, q3, rfl, rfl, rfl, h3, r3⟩ := trodAll_cons r2
  obtain ⟨v4, vs4, d4', ds4, p4, q4, rfl, rfl, rfl, h4, r4⟩ := trodAll_cons r3
  obtain ⟨rfl, rfl, rfl⟩ := trodAll_nil r4
  obtain rfl : args = #[v0, v1, v2, v3, v4] := by cases args; simp_all
  obtain ⟨rfl, rfl⟩ := trodVars_none hV
  have k0 := h0
  have lt0 : ∀ x ∈ p0, x.block < W.heap.size := by obtain ⟨m, hm⟩ := k0; exact DataW.trod_lt m _ _ _ hm
  obtain ⟨A0, n0, c0, rfl⟩ := okWide_slice Try.underlying22 (hval 0 22 v0 rfl rfl)
  obtain ⟨fuel0, hf0⟩ := h0
  obtain ⟨l0, hy0, hz0⟩ := arg_of opC OpIn (by decide) opC_len Try.underlying22 (by kernel_rfl) (fun n cs x h => read_op Try.underlying32 (by kernel_rfl) (by kernel_rfl) (fun j hj => by rcases (by omega : j = 0 ∨ j = 1 ∨ j = 2 ∨ j = 3) with rfl | rfl | rfl | rfl <;> exact ⟨_, rfl, Try.underlying3⟩) ⟨_, rfl, rfl⟩ Try.underlying9 h) hf0
  obtain ⟨n1, rfl, rfl, rfl, hn1⟩ := open_int Try.underlying3 (hval 1 3 v1 rfl rfl) h1
  have hm1 := lit_i64 hn1
  obtain ⟨n2, rfl, rfl, rfl, hn2⟩ := open_int Try.underlying3 (hval 2 3 v2 rfl rfl) h2
  have hm2 := lit_i64 hn2
  obtain ⟨n3, rfl, rfl, rfl, hn3⟩ := open_int Try.underlying3 (hval 3 3 v3 rfl rfl) h3
  have hm3 := lit_i64 hn3
  obtain ⟨n4, rfl, rfl, rfl, hn4⟩ := open_int Try.underlying3 (hval 4 3 v4 rfl rfl) h4
  have hm4 := lit_i64 hn4
  clear hA0 hval0
  refine (outOnce_any hy0 hz0).mono fun e W' ⟨he, hfr⟩ => ?_
  have bel : Below W.heap.size W W' := Fr0.below hfr
  subst he
  exact ⟨_, rfl, _, _, _, [], _, [], hW', trodAll_mk1 (shut_bool Try.underlying4 _), (trodAll_cons_mk (Below.trod laidOut (by kernel_rfl) (of_decide_eq_true (by kernel_rfl)) k0 bel lt0) (trodAll_cons_mk (shut_int Try.underlying3 hn1) (trodAll_cons_mk (shut_int Try.underlying3 hn2) (trodAll_cons_mk (shut_int Try.underlying3 hn3) (trodAll_cons_mk (shut_int Try.underlying3 hn4) trodAll_mk0))))), rfl, bel.frame _, fun h => by cases h⟩

theorem over : Rows.outOnceRow.holds Try.pinned (OpenSpec.ofChange Rows.outOnceSpec) :=
  OpenClaim.holds_of_wide 3 Try.f3 rfl rfl rfl rfl rfl rfl rfl ⟨rfl, rfl, rfl, rfl, rfl⟩ rfl rfl rfl rfl rfl (by kernel_rfl) Try.func3 (by kernel_rfl)
    (of_decide_eq_true (by kernel_rfl)) (by unfold Func.isWrapper; first | (rw [if_pos (by decide +kernel)]; kernel_rfl) | (rw [if_neg (by decide +kernel)]; exact ⟨rfl, rfl⟩))
    (fun os started H enc _ => lifted os started H enc)

theorem proved : Rows.OutOnceSaid := over
#print axioms proved
end OutOnce
end Go.Proofs.Ytomdlfeaecknfaa
