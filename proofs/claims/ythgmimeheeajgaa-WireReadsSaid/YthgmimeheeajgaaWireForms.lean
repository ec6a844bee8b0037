/- WireForms: the forms of any number, any fixed one, any text are the document's, and new each time: the law returns true for every input. No condition. -/
import Derived.Test.YthgmimeheeajgaaWireKnown
import Derived.Test.YthgmimeheeajgaaWLits
import Derived.Test.YthgmimeheeajgaaWApp
import Derived.Deep.RegionHeldLaw
import Derived.Deep.DeepCutAuto
namespace Go.Proofs.Ythgmimeheeajgaa
open Go.RowKit

theorem own_some {w : World} {base n : Nat} {t : TypeId} {size : Nat} {v : Value} {xs : List Value} (h : w.ownsRow base t size v n xs) (hn : 0 < n) : ∃ g c, v = .slice (some ⟨g, 0, none⟩) n c ∧ base ≤ g ∧ g < w.heap.size ∧ n ≤ c := by
  rcases h.2 with ⟨rfl, rfl⟩ | ⟨g, cap, cur, rfl, hb, hg, hnc, _⟩
  · omega
  · exact ⟨g, cap, rfl, hb, lt_of_block hg, hnc⟩
/-- A slice of the call's own, whatever it holds. -/
def OwnAny (w : World) (base g n c : Nat) : Prop := ∃ xs, w.ownsRow base 5 1 (.slice (some ⟨g, 0, none⟩) n c) n xs
theorem OwnAny.store {w : World} {base g n c : Nat} (h : OwnAny w base g n c) (j : Nat) (u : Value) : OwnAny (w.setCell ⟨g, j, none⟩ u) base g n c := by
  obtain ⟨xs, h⟩ := h
  exact ⟨_, (h.stored j u).1⟩
theorem OwnAny.other {w : World} {base g n c : Nat} (h : OwnAny w base g n c) {b : Nat} (hb : g ≠ b) (j : Nat) (u : Value) : OwnAny (w.setCell ⟨b, j, none⟩ u) base g n c := by
  obtain ⟨xs, h⟩ := h
  exact ⟨xs, own_fr (S := fun k => k = b) h (Fr.setCell (S := fun k => k = b) (p := ⟨b, j, none⟩) (Fr.refl (fun k => k = b) w) (.inl rfl) u) (fun g' hg' e => by cases hg'; exact hb e)⟩
theorem OwnAny.base {w : World} {base g n c : Nat} (h : OwnAny w base g n c) : base ≤ g := by
  obtain ⟨xs, h⟩ := h
  exact (own_lt' h g rfl).1
theorem OwnAny.fr0 {w w' : World} {base g n c : Nat} (h : OwnAny w base g n c) (hf : Fr0 w w') : OwnAny w' base g n c := by
  obtain ⟨xs, h⟩ := h
  exact ⟨xs, own_fr h hf (fun _ _ h => h)⟩
theorem OwnAny.at {w : World} {base g n c : Nat} (h : OwnAny w base g n c) {j : Nat} (hj : j < n) : (∃ u, w.cell? ⟨g, j, none⟩ = some u) ∧ w.frozen? ⟨g, j, none⟩ = false := by
  obtain ⟨xs, h⟩ := h
  have hl := h.1
  have := own_at h (j := j) (u := xs[j]'(by omega)) (List.getElem?_eq_getElem _)
  exact ⟨⟨_, this.1⟩, this.2⟩

set_option maxHeartbeats 4000000 in
set_option maxRecDepth 100000 in
theorem wireForms_any (n : Nat) (hn : n < 18446744073709551616) (size : Int) (hm : -9223372036854775808 ≤ size ∧ size ≤ 9223372036854775807) {vs : Value} {s : List UInt8} {w : World} (hs : RdB w vs s) :
    Calls Try.prog 5 #[.int .u64 (n : Int), .int .i64 size, vs] w fun e w' => e = .returned (.bool true) ∧ Fr0 w w' := by
  obtain ⟨As, cs, rfl, hns, _, _⟩ := hs.form
  have s63 := hs.le63
  by_cases hs2 : 5000 < s.length
  · have q0 : decide (5000 < (s.length : Int)) = true := by simp; omega
    have q1 : decide (5000 < s.length) = true := by simpa using hs2
    clear hs
    go_enter Try.func5, Try.ntmps5
    go_wp2_with (go_at_call 12; refine (known_any _).mono ?_; rintro e w2 ⟨rfl, hf⟩; have F := Lib.hid hf; clear hf)
    go_ret
    exact ⟨rfl, F.out⟩
  have q0 : decide (5000 < (s.length : Int)) = false := by simp; omega
  have q1 : decide (5000 < s.length) = false := by simpa using hs2
  have hs3 : s.length ≤ 5000 := by omega
  have S := Lib.hid hs
  have HN := Lib.hid (wireNum_any n hn)
  have HRN := Lib.hid (refNum_any n hn)
  have HX := Lib.hid (wireFixed_any n size hn)
  have HRX := Lib.hid (refFixed_any n size hn)
  have HT := Lib.hid (fun (w' : World) (h : RdB w' (.slice As s.length cs) s) => wireText_any h (by omega))
  have HRT := Lib.hid (fun (w' : World) (h : RdB w' (.slice As s.length cs) s) => refText_any h (by omega))
  have p1 := form_pos n
  have p4 : 0 < (textForm s).length := by rw [textForm, List.length_append]; have := form_pos s.length; omega
  have l1 := form_len_le hn
  have l3 := form_len_le (n := s.length) (by omega)
  have l4 : (textForm s).length ≤ 5010 := by rw [textForm, List.length_append]; omega
  obtain ⟨f1, hf1⟩ : ∃ f, f = form n := ⟨_, rfl⟩
  obtain ⟨f2, hf2⟩ : ∃ f, f = fixed n size := ⟨_, rfl⟩
  obtain ⟨f4, hf4⟩ : ∃ f, f = textForm s := ⟨_, rfl⟩
  rw [← hf1] at HN HRN p1 l1
  rw [← hf2] at HX HRX
  rw [← hf4] at HT HRT p4 l4
  clear hf1 hf2 hf4 hs hs2
  go_enter Try.func5, Try.ntmps5
  go_wp2_with (first
    | (go_at_call 12; refine (known_any _).mono ?_; rintro e w2 ⟨rfl, hf⟩; have F := Lib.hid hf; clear hf)
    | (at_builtin; refine app_bytes rfl _ _ rfl (L1 := []) ((F.out).alloc _) (own_empty (heap_alloc_new _ _) (F.out).size) (by rfl) ((S.out).fr0 ((F.out).alloc _)) (by rfl) (by omega) ?_; intro Ak ck wK hown hf; rw [Nat.zero_add, List.nil_append] at hown; have FK := Lib.hid hf; have K := Lib.hid (Rd.of_own hown); have G := Lib.hid (Fr0.refl wK); clear F hown hf)
    | (go_at_call 11; refine (HN.out _).mono ?_; rintro e w3 ⟨v, rfl, hown, hf⟩; obtain ⟨ga, ca, rfl, hga, hga2, hca⟩ := own_some hown p1; have OA := Lib.hid (own_base hown (G.out).size); replace G := Lib.hid ((G.out).trans hf); have GA := Lib.hid hga2; clear hf hown hga hga2)
    | (go_at_call 16; refine (HX.out _).mono ?_; rintro e w4 ⟨v, rfl, hown, hf⟩; obtain ⟨Ab, cb, rfl, hrb, -⟩ := own_text hown; replace OA := Lib.hid (own_fr (OA.out) hf (fun _ _ h => h)); replace G := Lib.hid ((G.out).trans hf); replace GA := Lib.hid (Nat.lt_of_lt_of_le GA.out hf.size); have RB := Lib.hid hrb; clear hf hown hrb)
    | (go_at_call 17; refine (HT.out _ ((S.out).fr0 ((FK.out).trans G.out))).mono ?_; rintro e w6 ⟨v, rfl, hown, hf⟩; obtain ⟨gc, cc, rfl, hgc, hgc2, hcc⟩ := own_some hown p4; have GAC := Lib.hid (Nat.lt_of_lt_of_le GA.out hgc); have OC := Lib.hid (own_base hown (G.out).size); replace OA := Lib.hid (own_fr (OA.out) hf (fun _ _ h => h)); replace RB := Lib.hid ((RB.out).fr0 hf); replace G := Lib.hid ((G.out).trans hf); clear hf hown hgc hgc2))
  have RA := Lib.hid (RdB.of_own OA.out)
  have RC := Lib.hid (RdB.of_own OC.out)
  have Q := Lib.hid ((Fr0.refl w6).drew)
  have OA2 := Lib.hid (show OwnAny w6 wK.heap.size ga f1.length ca from ⟨_, OA.out⟩)
  have OC2 := Lib.hid (show OwnAny w6 wK.heap.size gc f4.length cc from ⟨_, OC.out⟩)
  clear OA OC
  go_cut [50] (fun s50 wx => s50 = .bool false ∧ Fr0 w6 wx)
  case first =>
    go_region_held_law (fun w' => (convert 23 9 (.slice (some ⟨ga, 0, none⟩) f1.length ca)).run Try.prog w' = .ok (.string (str f1)) w' ∧ (convert 23 9 (.slice Ab f2.length cb)).run Try.prog w' = .ok (.string (str f2)) w' ∧ (convert 23 9 (.slice (some ⟨gc, 0, none⟩) f4.length cc)).run Try.prog w' = .ok (.string (str f4)) w') (first | exact ⟨conv_own ((RA.out).fr0 Q.out), conv_own ((RB.out).fr0 Q.out), conv_own ((RC.out).fr0 Q.out)⟩) (first
      | (go_at_call 18; refine (HRN.out _).mono ?_; rintro e w7 ⟨v, rfl, hown, hf⟩; obtain ⟨A9, c9, rfl, -, hct⟩ := own_text hown; replace Q := Lib.hid ((Q.out).trans hf); clear hf hown)
      | (go_at_call 19; refine (HRX.out _).mono ?_; rintro e w7 ⟨v, rfl, hown, hf⟩; obtain ⟨A9, c9, rfl, -, hct⟩ := own_text hown; replace Q := Lib.hid ((Q.out).trans hf); clear hf hown)
      | (go_at_call 20; refine (HRT.out _ ((S.out).fr0 ((FK.out).trans ((G.out).trans Q.out)))).mono ?_; rintro e w7 ⟨v, rfl, hown, hf⟩; obtain ⟨A9, c9, rfl, -, hct⟩ := own_text hown; replace Q := Lib.hid ((Q.out).trans hf); clear hf hown))
    all_goals (go_wp2_with fail; go_meet; exact ⟨rfl, Q.out⟩)
  case rest =>
    obtain ⟨rfl, hq⟩ := hcut
    have G2 := Lib.hid ((G.out).trans hq)
    have OA3 := Lib.hid ((OA2.out).fr0 hq)
    have OC3 := Lib.hid ((OC2.out).fr0 hq)
    clear G Q OA2 OC2 RA RB RC hq
    go_wp2_with fail
    go_loopw [11] (fun v11 wr => ∃ i : Nat, v11 = .int .i64 (i : Int) ∧ i ≤ f1.length ∧ Fr0 wK wr ∧ OwnAny wr wK.heap.size ga f1.length ca ∧ OwnAny wr wK.heap.size gc f4.length cc) (fun v11 _ => f1.length - (intOf v11).toNat)
    case atStart => exact ⟨0, rfl, by omega, G2.out, OA3.out, OC3.out⟩
    case round =>
      clear G2 OA3 OC3
      obtain ⟨i, rfl, hi, hf, ha, hc⟩ := hrel
      by_cases hlt : i < f1.length
      · have a1 : decide ((i : Int) < (f1.length : Int)) = true := by simp; omega
        have i1 : (i : Int) < (f1.length : Int) := by omega
        obtain ⟨⟨u, e1⟩, e2⟩ := ha.at hlt
        have HA := Lib.hid ha
        have HC := Lib.hid hc
        clear ha hc
        go_wp2_with fail
        go_roundw
        case measure => simp [intOf]; omega
        case rel => exact ⟨i + 1, by simp, by omega, Fr.setCell (p := ⟨ga, i, none⟩) hf (.inr (HA.out).base) _, (HA.out).store i _, (HC.out).other (Nat.ne_of_gt GAC.out) i _⟩
      · have a1 : decide ((i : Int) < (f1.length : Int)) = false := by simp; omega
        have HC := Lib.hid hc
        have HF := Lib.hid hf
        clear ha hc hf
        go_wp2_with fail
        go_loopw [12] (fun v12 w2 => ∃ i : Nat, v12 = .int .i64 (i : Int) ∧ i ≤ f4.length ∧ Fr0 wK w2 ∧ OwnAny w2 wK.heap.size gc f4.length cc) (fun v12 _ => f4.length - (intOf v12).toNat)
        case atStart => exact ⟨0, rfl, by omega, HF.out, HC.out⟩
        case round =>
          clear HF HC
          obtain ⟨j, rfl, hj, hf, hc⟩ := hrel
          by_cases hlt2 : j < f4.length
          · have a2 : decide ((j : Int) < (f4.length : Int)) = true := by simp; omega
            have j1 : (j : Int) < (f4.length : Int) := by omega
            obtain ⟨⟨u, e1⟩, e2⟩ := hc.at hlt2
            have HC := Lib.hid hc
            clear hc
            go_wp2_with fail
            go_roundw
            case measure => simp [intOf]; omega
            case rel => exact ⟨j + 1, by simp, by omega, Fr.setCell (p := ⟨gc, j, none⟩) hf (.inr (HC.out).base) _, (HC.out).store j _⟩
          · have a2 : decide ((j : Int) < (f4.length : Int)) = false := by simp; omega
            have Q := Lib.hid (hf.drew)
            clear hc hf
            go_wp2_with fail
            go_region_held_law (fun w' => (convert 23 9 (.slice As s.length cs)).run Try.prog w' = .ok (.string (str s)) w' ∧ (convert 23 9 (.slice Ak s.length ck)).run Try.prog w' = .ok (.string (str s)) w') (first | exact ⟨conv_own ((S.out).fr0 ((FK.out).trans Q.out)), conv_own (RdB.fr0 K.out Q.out)⟩) (first
              | (go_at_call 18; refine (HRN.out _).mono ?_; rintro e w7 ⟨v, rfl, hown, hf⟩; obtain ⟨A9, c9, rfl, -, hct⟩ := own_text hown; have hctN := conv_own (RdB.fr0 RN.out hf); replace Q := Lib.hid ((Q.out).trans hf); clear hf hown)
              | (go_at_call 11; refine (HN.out _).mono ?_; rintro e w7 ⟨v, rfl, hown, hf⟩; obtain ⟨A8, c8, rfl, hr8, hct8⟩ := own_text hown; have RN := Lib.hid hr8; replace Q := Lib.hid ((Q.out).trans hf); clear hf hown hr8))
            all_goals (go_wp2_with fail; go_ret; exact ⟨rfl, (FK.out).trans Q.out⟩)

namespace WireForms
open Go.ChangeShapes Go.WideShapes Go.ChangeAt
open Go.ChangeMaps (open_string shut_string)

theorem own : ownKnob Try.prog.godebug = none := by kernel_rfl
theorem laidOut : laidOutB Try.prog = true := by kernel_rfl

set_option maxRecDepth 100000 in
theorem lifted (os : Os) (started : os.Started) (H : Type) (enc : TypeId × Value → H) :
    ReturnsInHanded {} Try.checked os 5 .any (Rows.wireFormsSpec.pre6 enc Try.prog Try.f5 Rows.wireFormsRow.domain false) (Rows.wireFormsSpec.post enc Try.prog Try.f5 false true false false) := by
  refine returnsInHanded_of_change (C := Try.checked) own started (by kernel_rfl) Try.func5
    (ChangeSpec.witness6 (enc := enc) (C := Try.checked) false ⟨#[], #[.int .u64 0, .int .i64 0, .slice none 0 0], []⟩ 8 (by kernel_rfl) (by kernel_rfl) (by kernel_rfl) (by kernel_rfl)) ?_
  intro W base args ds gs before hval0 hW hcnd _
  have hval : ∀ (j : Nat) t v, Try.f5.params[j]? = some t → args[j]? = some v → Value.okWide Try.prog W .any base t v := hval0
  have hW' := hW
  obtain ⟨p, q, hA0, hV, rfl, hfz, hnd⟩ := hW
  have hA : DataW.TrodAll enc Try.prog W 0 (fun _ => true) true Try.f5.params.toList args.toList ds p := hA0
  rw [Try.params5] at hA hval
  obtain ⟨v0, vs0, d0', ds0, p0, q0, hargs, rfl, rfl, h0, r0⟩ := trodAll_cons hA
  obtain ⟨v1, vs1, d1', ds1, p1, q1, rfl, rfl, rfl, h1, r1⟩ := trodAll_cons r0
  obtain ⟨v2, vs2, d2', ds2, p2, q2, rfl, rfl, rfl, h2, r2⟩ := trodAll_cons r1
  obtain ⟨rfl, rfl, rfl⟩ := trodAll_nil r2
  obtain rfl : args = #[v0, v1, v2] := by cases args; simp_all
  obtain ⟨rfl, rfl⟩ := trodVars_none hV
  obtain ⟨n0, rfl, rfl, rfl, hn0⟩ := open_int Try.underlying22 (hval 0 22 v0 rfl rfl) h0
  obtain ⟨m0, rfl, hm0⟩ := lit_u64 hn0
  obtain ⟨n1, rfl, rfl, rfl, hn1⟩ := open_int Try.underlying3 (hval 1 3 v1 rfl rfl) h1
  have hm1 := lit_i64 hn1
  have k2 := h2
  have lt2 : ∀ x ∈ p2, x.block < W.heap.size := by obtain ⟨m, hm⟩ := k2; exact DataW.trod_lt m _ _ _ hm
  obtain ⟨A2, n2, c2, rfl⟩ := okWide_slice Try.underlying23 (hval 2 23 v2 rfl rfl)
  obtain ⟨fuel2, hf2⟩ := h2
  obtain ⟨d2, hy2⟩ := arg_bytes Try.underlying23 Try.underlying5 (by kernel_rfl) hf2
  clear hA0 hval0
  refine (wireForms_any m0 hm0 n1 hm1 hy2).mono fun e W' ⟨he, hfr⟩ => ?_
  have bel : Below W.heap.size W W' := Fr0.below hfr
  subst he
  exact ⟨_, rfl, _, _, _, [], _, [], hW', trodAll_mk1 (shut_bool Try.underlying4 _), (trodAll_cons_mk (shut_int Try.underlying22 hn0) (trodAll_cons_mk (shut_int Try.underlying3 hn1) (trodAll_cons_mk (Below.trod laidOut (by kernel_rfl) (of_decide_eq_true (by kernel_rfl)) k2 bel lt2) trodAll_mk0))), rfl, bel.frame _, fun h => by cases h⟩

theorem over : Rows.wireFormsRow.holds Try.pinned (OpenSpec.ofChange Rows.wireFormsSpec) :=
  OpenClaim.holds_of_wide 5 Try.f5 rfl rfl rfl rfl rfl rfl rfl ⟨rfl, rfl, rfl, rfl, rfl⟩ rfl rfl rfl rfl rfl (by kernel_rfl) Try.func5 (by kernel_rfl)
    (of_decide_eq_true (by kernel_rfl)) (by unfold Func.isWrapper; first | (rw [if_pos (by decide +kernel)]; kernel_rfl) | (rw [if_neg (by decide +kernel)]; exact ⟨rfl, rfl⟩))
    (fun os started H enc _ => lifted os started H enc)

theorem proved : Rows.WireFormsSaid := over
#print axioms proved
end WireForms
end Go.Proofs.Ythgmimeheeajgaa
