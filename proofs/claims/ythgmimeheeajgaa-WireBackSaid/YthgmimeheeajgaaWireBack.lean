/- WireBack: what was put is read again, one behind the other, whatever stands behind it; cut anywhere within it is ErrBytes: the law returns true for every input. No condition. -/
import Derived.Test.YthgmimeheeajgaaWireKnown
import Derived.Test.YthgmimeheeajgaaWireBackLaw
import Derived.Test.YthgmimeheeajgaaWLits
import Derived.Test.YthgmimeheeajgaaWApp
import Derived.Deep.RegionHeldLaw
import Derived.Deep.DeepCutAuto
namespace Go.Proofs.Ythgmimeheeajgaa
open Go.RowKit

theorem own_le {w : World} {base n c : Nat} {t : TypeId} {size : Nat} {A : Option Addr} {xs : List Value} (h : w.ownsRow base t size (.slice A n c) n xs) : n ≤ c := by
  obtain ⟨A', c', hv, h1, _⟩ := own_form h
  injection hv with _ _ hc
  omega
theorem backForm_len (n m : Nat) (s : List UInt8) (hn : n < 18446744073709551616) (hm : m < 18446744073709551616) (hs : s.length ≤ 2000) : (backForm n m s).length ≤ 2038 := by
  unfold backForm
  have h1 := form_len_le hn
  have h2 := form_len_le hm
  have h3 := form_len_le (n := s.length) (by omega)
  simp only [List.length_append, fixForm_len, textForm]
  omega

set_option maxHeartbeats 4000000 in
set_option maxRecDepth 100000 in
theorem wireBack_any (n m : Nat) (hn : n < 18446744073709551616) (hm : m < 18446744073709551616) {vs vb : Value} {s b : List UInt8} (cut : Int) (hc : -9223372036854775808 ≤ cut ∧ cut ≤ 9223372036854775807) {w : World} (hs : RdB w vs s) (hb : RdB w vb b) :
    Calls Try.prog 10 #[.int .u64 (n : Int), .int .u64 (m : Int), vs, vb, .int .i64 cut] w fun e w' => e = .returned (.bool true) ∧ Fr0 w w' := by
  obtain ⟨As, cs, rfl, hns, _, _⟩ := hs.form
  obtain ⟨Ab, cb, rfl, hnb, _, _⟩ := hb.form
  have s63 := hs.le63
  have b63 := hb.le63
  obtain ⟨i0, hi, hz0, hz1, hz2⟩ := info_parts infoU8
  have Hi := Lib.hid hi
  clear hi
  by_cases hs2 : 2000 < s.length
  · have q0 : decide (2000 < (s.length : Int)) = true := by simp; omega
    have q1 : decide (2000 < s.length) = true := by simpa using hs2
    clear hs hb
    go_enter Try.func10, Try.ntmps10
    go_wp2_with (go_at_call 12; refine (known_any _).mono ?_; rintro e w2 ⟨rfl, hf⟩; have F := Lib.hid hf; clear hf)
    go_ret
    exact ⟨rfl, F.out⟩
  by_cases hb2 : 2000 < b.length
  · have q0 : decide (2000 < (s.length : Int)) = false := by simp; omega
    have q1 : decide (2000 < s.length) = false := by simpa using hs2
    have q2 : decide (2000 < (b.length : Int)) = true := by simp; omega
    have q3 : decide (2000 < b.length) = true := by simpa using hb2
    clear hs hb
    go_enter Try.func10, Try.ntmps10
    go_wp2_with (go_at_call 12; refine (known_any _).mono ?_; rintro e w2 ⟨rfl, hf⟩; have F := Lib.hid hf; clear hf)
    go_ret
    exact ⟨rfl, F.out⟩
  have q0 : decide (2000 < (s.length : Int)) = false := by simp; omega
  have q1 : decide (2000 < s.length) = false := by simpa using hs2
  have q2 : decide (2000 < (b.length : Int)) = false := by simp; omega
  have q3 : decide (2000 < b.length) = false := by simpa using hb2
  have hs3 : s.length ≤ 2000 := by omega
  have hb3 : b.length ≤ 2000 := by omega
  have S := Lib.hid hs
  have B := Lib.hid hb
  have hfixed : fixed m 8 = fixForm m 8 := rfl
  have l1 := form_len_le hn
  have l2 := form_len_le hm
  have l3 := form_len_le (n := s.length) (by omega)
  have l4 : (fixForm m 8).length ≤ 8 := by rw [fixForm_len]; exact Nat.le_refl _
  have HN1 := Lib.hid (wireNum_any n hn)
  have HN2 := Lib.hid (wireNum_any m hm)
  have HFX := Lib.hid (wireFixed_any m 8 hm)
  obtain ⟨f1, hf1⟩ : ∃ f, f = form n := ⟨_, rfl⟩
  obtain ⟨f2, hf2⟩ : ∃ f, f = form m := ⟨_, rfl⟩
  obtain ⟨f3, hf3⟩ : ∃ f, f = fixForm m 8 := ⟨_, rfl⟩
  have hl5 : (textForm s).length ≤ 2010 := by rw [textForm, List.length_append]; omega
  obtain ⟨f4, hf4⟩ : ∃ f, f = textForm s := ⟨_, rfl⟩
  have hbf : backForm n m s = f1 ++ (f3 ++ (f4 ++ f2)) := by rw [hf1, hf2, hf3, hf4]; rfl
  have BF := Lib.hid hbf
  obtain ⟨d1, d2, d3, hE1, hE2, hE3, hE4⟩ := back_reads n m s b hn hm (by omega)
  rw [← hf1, ← hf2, ← hf3, ← hf4] at hE1
  have E1 := Lib.hid hE1
  have E2 := Lib.hid hE2
  have E3 := Lib.hid hE3
  have E4 := Lib.hid hE4
  have hd1 : d1.length ≤ 100000 := by have := rNum_left (f1 ++ f3 ++ f4 ++ f2 ++ b) 0; rw [hE1] at this; simp only [List.length_append] at this; rw [← hf1] at l1; rw [← hf2] at l2; rw [← hf3] at l4; rw [← hf4] at hl5; omega
  have hd2 : d2.length ≤ 100000 := by have := rFixed_left d1 0 8; rw [hE2] at this; simp only at this; omega
  have hd3 : d3.length ≤ 100000 := by have := rText_left d2 0 s.length; rw [hE3] at this; simp only at this; omega
  clear hE1 hE2 hE3 hE4
  rw [hfixed] at HFX
  rw [← hf1] at HN1 l1
  rw [← hf2] at HN2 l2
  rw [← hf3] at HFX l4
  rw [← hf4] at hl5
  have H4 := Lib.hid hf4
  clear hf1 hf2 hf3 hf4 hfixed hbf hs hb hs2 hb2
  go_enter Try.func10, Try.ntmps10
  go_wp2_with (first
    | (go_at_call 12; refine (known_any _).mono ?_; rintro e w2 ⟨rfl, hf⟩; have F := Lib.hid hf; clear hf)
    | (go_at_call 16; refine (HFX.out _).mono ?_; rintro e w2 ⟨v, rfl, hown, hf⟩; obtain ⟨A2, c2, rfl, hr2, -⟩ := own_text hown; have R := Lib.hid hr2; replace O := Lib.hid (own_fr (O.out) hf (fun _ _ h => h)); replace F := Lib.hid ((F.out).trans hf); clear hf hown hr2)
    | (go_at_call 17; refine (wireText_any ((S.out).fr0 F.out) (by omega)).mono ?_; rintro e w2 ⟨v, rfl, hown, hf⟩; rw [← H4.out] at hown; obtain ⟨A2, c2, rfl, hr2, -⟩ := own_text hown; have R := Lib.hid hr2; have T4 := Lib.hid True.intro; replace O := Lib.hid (own_fr (O.out) hf (fun _ _ h => h)); replace F := Lib.hid ((F.out).trans hf); clear hf hown hr2)
    | (have _q := T4; go_at_call 11; refine (HN2.out _).mono ?_; rintro e w2 ⟨v, rfl, hown, hf⟩; obtain ⟨A2, c2, rfl, hr2, -⟩ := own_text hown; have R := Lib.hid hr2; have T5 := Lib.hid True.intro; clear T4; replace O := Lib.hid (own_fr (O.out) hf (fun _ _ h => h)); replace F := Lib.hid ((F.out).trans hf); clear hf hown hr2)
    | (go_at_call 11; refine (HN1.out _).mono ?_; rintro e w2 ⟨v, rfl, hown, hf⟩; obtain ⟨A1, c1, rfl, -, -, -⟩ := own_form hown; have O := Lib.hid (own_base hown (F.out).size); replace F := Lib.hid ((F.out).trans hf); clear hf hown)
    | (go_at_call 13; refine (openR_any (rdb_of (Rd.of_own O.out)) (by simp only [List.length_append]; omega)).mono ?_; rintro e w2 ⟨p, A, c, rfl, hr, hf, hp, hp2⟩; have P := Lib.hid (Nat.le_trans (F.out).size hp); replace F := Lib.hid ((F.out).trans hf); have R := Lib.hid hr; clear O hr hf hp hp2)
    | (at_builtin; have _q := R; refine app_bytes rfl _ _ rfl F.out O.out (by rfl) (R.out) (by rfl) (by omega) ?_; intro A c w2 hown hf; replace F := Lib.hid hf; clear R; replace O := Lib.hid hown; clear hf hown)
    | (at_builtin; refine app_bytes rfl _ _ rfl (L1 := []) ((Fr0.refl _).alloc _) (own_empty (heap_alloc_new _ _) (Nat.le_refl _)) (by rfl) ((Rd.of_own O.out).fr0 ((Fr0.refl _).alloc _)) (by rfl) (by omega) ?_; (obtain ⟨A0, hA0⟩ : ∃ A0, A0 = A := ⟨_, rfl⟩); (obtain ⟨c0, hc0⟩ : ∃ c0, c0 = c := ⟨_, rfl⟩); rw [← hA0, ← hc0] at O; rw [← hA0, ← hc0]; clear hA0 hc0; (obtain ⟨wB, hwB⟩ : ∃ wB, wB = w2 := ⟨_, rfl⟩); rw [← hwB] at O F; rw [← hwB]; clear hwB; intro A c w2 hown hf; rw [Nat.zero_add, List.nil_append] at hown; have R := Lib.hid ((B.out).fr0 ((F.out).trans hf)); have OB := Lib.hid ((Rd.of_own O.out)); have HSL := Lib.hid (fun (cn : Nat) (hcn : cn ≤ f1.length + f3.length + f4.length + f2.length) => slice_to (P := Try.prog) (T := 23) (e := 5) Try.underlying23 (fun _ => by kernel_rfl) (k := cn) (A := A0) (n := f1.length + f3.length + f4.length + f2.length) (c := c0) (Nat.le_trans hcn (own_le O.out))); have F5 := F; replace F := Lib.hid hf; replace O := Lib.hid hown; clear hf hown))
  have x1 : ((n : Int) != (n : Int)) = false := by simp
  have x2 : ((m : Int) != (m : Int)) = false := by simp
  go_cut [87] (fun s87 wx => s87 = .bool false ∧ Fr0 wB wx)
  case first =>
    replace R := Lib.hid ((R.out).fr0 ((Fr0.refl w2).drew))
    replace F := Lib.hid ((F.out).drew)
    go_region_held_law (fun w' => (convert 23 9 (.slice As s.length cs)).run Try.prog w' = .ok (.string (str s)) w' ∧ (convert 23 9 (.slice Ab b.length cb)).run Try.prog w' = .ok (.string (str b)) w') (first | exact ⟨conv_own ((S.out).fr0 ((F5.out).trans F.out)), conv_own ((B.out).fr0 ((F5.out).trans F.out))⟩) (first
      | (have _q := T7; go_at_call 14; refine (rnum_any R.out (by omega)).mono ?_; rintro e w4 ⟨he, hf, A', c', hr⟩; rw [E4.out] at he hr; subst he; replace F := Lib.hid ((F.out).new hf P.out); replace R := Lib.hid hr; clear hf hr)
      | (go_at_call 14; refine (rnum_any R.out (by simp only [List.length_append]; omega)).mono ?_; rintro e w4 ⟨he, hf, A', c', hr⟩; rw [E1.out] at he hr; subst he; replace F := Lib.hid ((F.out).new hf P.out); replace R := Lib.hid hr; clear hf hr)
      | (go_at_call 23; refine (rfixed_any R.out (by omega) (by decide)).mono ?_; rintro e w4 ⟨he, hf, A', c', hr⟩; rw [E2.out] at he hr; subst he; replace F := Lib.hid ((F.out).new hf P.out); replace R := Lib.hid hr; have T7 := Lib.hid True.intro; clear hf hr)
      | (go_at_call 22; refine (rtext_any R.out (by omega) (by omega)).mono ?_; rintro e w4 ⟨v, rfl, hown, hf, A', c', hr⟩; rw [E3.out] at hown hr; obtain ⟨A9, c9, rfl, -, hct⟩ := own_text hown; replace F := Lib.hid ((F.out).new hf P.out); replace R := Lib.hid hr; clear hf hr hown)
      | (go_at_call 21; refine (rerr_any R.out).mono ?_; rintro e w4 ⟨rfl, rfl⟩)
      | (go_at_call 27; refine (rrest_any R.out (by omega)).mono ?_; rintro e w4 ⟨v, rfl, hown, hf, A', c', hr⟩; rw [rRest_ok] at hown hr; obtain ⟨A9, c9, rfl, -, hct2⟩ := own_text hown; replace F := Lib.hid ((F.out).new hf P.out); replace R := Lib.hid hr; clear hf hr hown)
      | (go_at_call 29; refine (rend_any R.out (by decide)).mono ?_; rintro e w4 ⟨he, hw⟩; rw [show rEnd [] 0 = 0 from by decide] at he; subst he; subst hw))
    all_goals (go_wp2_with fail; go_meet; exact ⟨rfl, F.out⟩)
  case rest =>
    obtain ⟨rfl, hf⟩ := hcut
    have hfw := Lib.hid ((F5.out).trans hf)
    have hk4 : f1.length + f3.length + f4.length + f2.length ≤ 100000 := by omega
    have hbl : (f1 ++ f3 ++ f4 ++ f2).length = f1.length + f3.length + f4.length + f2.length := by simp only [List.length_append]
    have HBL := Lib.hid hbl
    clear hbl
    generalize f1.length + f3.length + f4.length + f2.length = k at *
    by_cases hc0 : cut < 0
    · have y0 : decide (cut < 0) = true := by simpa using hc0
      clear hc0 hf
      go_wp2_with fail
      go_ret
      exact ⟨rfl, hfw.out⟩
    · obtain ⟨cn, rfl⟩ : ∃ cn : Nat, cut = cn := ⟨cut.toNat, by omega⟩
      by_cases hck : k ≤ cn
      · have y1 : decide ((k : Int) ≤ (cn : Int)) = true := by simp; omega
        have y2 : decide (k ≤ cn) = true := by simpa using hck
        clear hc0 hf hck
        go_wp2_with fail
        go_ret
        exact ⟨rfl, hfw.out⟩
      · have y1 : decide ((k : Int) ≤ (cn : Int)) = false := by simp; omega
        have y2 : decide (k ≤ cn) = false := by simpa using hck
        have hcn : cn ≤ k := by omega
        have hsl := HSL.out cn hcn
        have hbk := back_cut n m s hn hm (by omega) cn (by rw [BF.out, ← List.append_assoc, ← List.append_assoc, HBL.out]; omega)
        rw [BF.out, ← List.append_assoc, ← List.append_assoc] at hbk
        unfold back4 at hbk
        simp only at hbk
        have BK := Lib.hid hbk
        have hX : ((f1 ++ f3 ++ f4 ++ f2).take cn).length ≤ 100000000 := by rw [List.length_take]; omega
        clear hc0 hck hbk
        go_wp2_with (first
            | (go_at_call 13; refine (openR_any (rdb_of (Rd.fr0 (by have := Rd.take OB.out hcn rfl; rw [byts_take] at this; exact this) hf)) hX).mono ?_; rintro e w3 ⟨p2, A, c, rfl, hr, hf2, hp, hp2⟩; have P2 := Lib.hid (Nat.le_trans (hf).size hp); have G := Lib.hid (Fr0.trans hf hf2); have R2 := Lib.hid hr; clear hr hf2 hp hp2)
            | (have _q := T9; go_at_call 14; refine (rnum_any R2.out (Nat.le_trans (rText_left _ _ _) (Nat.le_trans (rFixed_left _ _ _) (Nat.le_trans (rNum_left _ _) hX)))).mono ?_; rintro e w4 ⟨rfl, hf2, A', c', hr⟩; replace G := Lib.hid ((G.out).new hf2 P2.out); rw [BK.out] at hr; replace R2 := Lib.hid hr; clear hf2 hr)
            | (go_at_call 14; refine (rnum_any R2.out hX).mono ?_; rintro e w4 ⟨rfl, hf2, A', c', hr⟩; replace G := Lib.hid ((G.out).new hf2 P2.out); replace R2 := Lib.hid hr; clear hf2 hr)
            | (go_at_call 23; refine (rfixed_any R2.out (Nat.le_trans (rNum_left _ _) hX) (by decide)).mono ?_; rintro e w4 ⟨rfl, hf2, A', c', hr⟩; replace G := Lib.hid ((G.out).new hf2 P2.out); replace R2 := Lib.hid hr; have T9 := Lib.hid True.intro; clear hf2 hr)
            | (go_at_call 22; refine (rtext_any R2.out (Nat.le_trans (rFixed_left _ _ _) (Nat.le_trans (rNum_left _ _) hX)) (by omega)).mono ?_; rintro e w4 ⟨v, rfl, hown, hf2, A', c', hr⟩; obtain ⟨A9, c9, rfl, -, -, -⟩ := own_form hown; replace G := Lib.hid ((G.out).new hf2 P2.out); replace R2 := Lib.hid hr; clear hf2 hr hown)
            | (go_at_call 21; refine (rerr_any R2.out).mono ?_; rintro e w4 ⟨rfl, rfl⟩)
            | (go_at_call 29; refine (rend_any R2.out (Nat.le_trans (rNum_left _ _) (Nat.le_trans (rText_left _ _ _) (Nat.le_trans (rFixed_left _ _ _) (Nat.le_trans (rNum_left _ _) hX))))).mono ?_; rintro e w4 ⟨he, hw⟩; rw [rEnd_err] at he; subst he; subst hw))
        go_ret
        exact ⟨rfl, (F5.out).trans G.out⟩

namespace WireBack
open Go.ChangeShapes Go.WideShapes Go.ChangeAt
open Go.ChangeMaps (open_string shut_string)

theorem own : ownKnob Try.prog.godebug = none := by kernel_rfl
theorem laidOut : laidOutB Try.prog = true := by kernel_rfl

set_option maxRecDepth 100000 in
theorem lifted (os : Os) (started : os.Started) (H : Type) (enc : TypeId × Value → H) :
    ReturnsInHanded {} Try.checked os 10 .any (Rows.wireBackSpec.pre6 enc Try.prog Try.f10 Rows.wireBackRow.domain false) (Rows.wireBackSpec.post enc Try.prog Try.f10 false true false false) := by
  refine returnsInHanded_of_change (C := Try.checked) own started (by kernel_rfl) Try.func10
    (ChangeSpec.witness6 (enc := enc) (C := Try.checked) false ⟨#[], #[.int .u64 0, .int .u64 0, .slice none 0 0, .slice none 0 0, .int .i64 0], []⟩ 8 (by kernel_rfl) (by kernel_rfl) (by kernel_rfl) (by kernel_rfl)) ?_
  intro W base args ds gs before hval0 hW hcnd _
  have hval : ∀ (j : Nat) t v, Try.f10.params[j]? = some t → args[j]? = some v → Value.okWide Try.prog W .any base t v := hval0
  have hW' := hW
  obtain ⟨p, q, hA0, hV, rfl, hfz, hnd⟩ := hW
  have hA : DataW.TrodAll enc Try.prog W 0 (fun _ => true) true Try.f10.params.toList args.toList ds p := hA0
  rw [Try.params10] at hA hval
  obtain ⟨v0, vs0, d0', ds0, p0, q0, hargs, rfl, rfl, h0, r0⟩ := trodAll_cons hA
  obtain ⟨v1, vs1, d1', ds1, p1, q1, rfl, rfl, rfl, h1, r1⟩ := trodAll_cons r0
  obtain ⟨v2, vs2, d2', ds2, p2, q2, rfl, rfl, rfl, h2, r2⟩ := trodAll_cons r1
  obtain ⟨v3, vs3, d3', ds3, p3, q3, rfl, rfl, rfl, h3, r3⟩ := trodAll_cons r2
  obtain ⟨v4, vs4, d4', ds4, p4, q4, rfl, rfl, rfl, h4, r4⟩ := trodAll_cons r3
  obtain ⟨rfl, rfl, rfl⟩ := trodAll_nil r4
  obtain rfl : args = #[v0, v1, v2, v3, v4] := by cases args; simp_all
  obtain ⟨rfl, rfl⟩ := trodVars_none hV
  obtain ⟨n0, rfl, rfl, rfl, hn0⟩ := open_int Try.underlying22 (hval 0 22 v0 rfl rfl) h0
  obtain ⟨m0, rfl, hm0⟩ := lit_u64 hn0
  obtain ⟨n1, rfl, rfl, rfl, hn1⟩ := open_int Try.underlying22 (hval 1 22 v1 rfl rfl) h1
  obtain ⟨m1, rfl, hm1⟩ := lit_u64 hn1
  have k2 := h2
  have lt2 : ∀ x ∈ p2, x.block < W.heap.size := by obtain ⟨m, hm⟩ := k2; exact DataW.trod_lt m _ _ _ hm
  obtain ⟨A2, n2, c2, rfl⟩ := okWide_slice Try.underlying23 (hval 2 23 v2 rfl rfl)
  obtain ⟨fuel2, hf2⟩ := h2
  obtain ⟨d2, hy2⟩ := arg_bytes Try.underlying23 Try.underlying5 (by kernel_rfl) hf2
  have k3 := h3
  have lt3 : ∀ x ∈ p3, x.block < W.heap.size := by obtain ⟨m, hm⟩ := k3; exact DataW.trod_lt m _ _ _ hm
  obtain ⟨A3, n3, c3, rfl⟩ := okWide_slice Try.underlying23 (hval 3 23 v3 rfl rfl)
  obtain ⟨fuel3, hf3⟩ := h3
  obtain ⟨d3, hy3⟩ := arg_bytes Try.underlying23 Try.underlying5 (by kernel_rfl) hf3
  obtain ⟨n4, rfl, rfl, rfl, hn4⟩ := open_int Try.underlying3 (hval 4 3 v4 rfl rfl) h4
  have hm4 := lit_i64 hn4
  clear hA0 hval0
  refine (wireBack_any m0 m1 hm0 hm1 n4 hm4 hy2 hy3).mono fun e W' ⟨he, hfr⟩ => ?_
  have bel : Below W.heap.size W W' := Fr0.below hfr
  subst he
  exact ⟨_, rfl, _, _, _, [], _, [], hW', trodAll_mk1 (shut_bool Try.underlying4 _), (trodAll_cons_mk (shut_int Try.underlying22 hn0) (trodAll_cons_mk (shut_int Try.underlying22 hn1) (trodAll_cons_mk (Below.trod laidOut (by kernel_rfl) (of_decide_eq_true (by kernel_rfl)) k2 bel lt2) (trodAll_cons_mk (Below.trod laidOut (by kernel_rfl) (of_decide_eq_true (by kernel_rfl)) k3 bel lt3) (trodAll_cons_mk (shut_int Try.underlying3 hn4) trodAll_mk0))))), rfl, bel.frame _, fun h => by cases h⟩

theorem over : Rows.wireBackRow.holds Try.pinned (OpenSpec.ofChange Rows.wireBackSpec) :=
  OpenClaim.holds_of_wide 10 Try.f10 rfl rfl rfl rfl rfl rfl rfl ⟨rfl, rfl, rfl, rfl, rfl⟩ rfl rfl rfl rfl rfl (by kernel_rfl) Try.func10 (by kernel_rfl)
    (of_decide_eq_true (by kernel_rfl)) (by unfold Func.isWrapper; first | (rw [if_pos (by decide +kernel)]; kernel_rfl) | (rw [if_neg (by decide +kernel)]; exact ⟨rfl, rfl⟩))
    (fun os started H enc _ => lifted os started H enc)

theorem proved : Rows.WireBackSaid := over
#print axioms proved
end WireBack
end Go.Proofs.Ythgmimeheeajgaa
