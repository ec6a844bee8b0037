/- WireOnce: what is read as a number, put again, is the bytes that were read; so is a text: the law returns true for every bytes. No condition. -/
import Derived.Test.YthgmimeheeajgaaWireKnown
import Derived.Test.YthgmimeheeajgaaWLits
import Derived.Test.YthgmimeheeajgaaWApp
import Derived.Deep.RegionHeldLaw
import Derived.Deep.RegionWith
import Derived.Deep.DeepCutAuto
namespace Go.Proofs.Ythgmimeheeajgaa
open Go.RowKit

theorem once_num (d : List UInt8) : ((rNum d 0).2.2 = 0 ∧ (rNum d 0).2.1.length ≤ d.length ∧ form (rNum d 0).1 = d.take (d.length - (rNum d 0).2.1.length) ∧ (rNum d 0).1 < 18446744073709551616) ∨ (rNum d 0).2.2 = 4 := by
  unfold rNum
  rw [if_neg (by simp)]
  by_cases h : (rd d).2 = 0
  · rw [if_pos h]; exact .inr rfl
  · rw [if_neg h]
    obtain ⟨h1, h2, h3⟩ := rd_once (d := d) (n := (rd d).1) (k := (rd d).2) rfl (by omega)
    refine .inl ⟨rfl, by simp, ?_, h2⟩
    rw [List.length_drop, show d.length - (d.length - (rd d).2) = (rd d).2 by omega, h3]
theorem once_text (d : List UInt8) (hd : d.length ≤ 2000) : ((rText d 0 d.length).2.2 = 0 ∧ (rText d 0 d.length).2.1.length ≤ d.length ∧ textForm (rText d 0 d.length).1 = d.take (d.length - (rText d 0 d.length).2.1.length) ∧ (rText d 0 d.length).1.length ≤ d.length) ∨
    ((rText d 0 d.length).2.2 ≠ 0 ∧ (rText d 0 d.length).1 = [] ∧ (rText d 0 d.length).2.1 = d) := by
  unfold rText
  rw [if_neg (by simp)]
  by_cases h : (tStep d d.length).2.1 = 0
  · rw [if_neg (by simpa using h)]
    obtain ⟨s1, s2⟩ := (tStep_facts d d.length).1 h
    unfold tStep at h s1 s2 ⊢
    by_cases k0 : (rd d).2 = 0
    · rw [if_pos k0] at h; simp at h
    · rw [if_neg k0] at h s1 s2 ⊢
      obtain ⟨h1, h2, h3⟩ := rd_once (d := d) (n := (rd d).1) (k := (rd d).2) rfl (by omega)
      by_cases k1 : max (d.length : Int) 0 < ((rd d).1 : Int)
      · rw [if_pos k1] at h; simp at h
      · rw [if_neg k1] at h s1 s2 ⊢
        by_cases k2 : d.length - (rd d).2 < (rd d).1
        · rw [if_pos k2] at h; simp at h
        · rw [if_neg k2] at s1 s2 ⊢
          simp only at s1 s2
          refine .inl ⟨rfl, by simp, ?_, by simp only [List.length_drop, List.length_take]; omega⟩
          simp only [List.length_drop]
          have hl : ((d.take ((rd d).2 + (rd d).1)).drop (rd d).2).length = (rd d).1 := by rw [List.length_drop, List.length_take]; omega
          rw [textForm, hl, ← h3, show d.length - (d.length - ((rd d).2 + (rd d).1)) = (rd d).2 + (rd d).1 by omega]
          have := List.take_append_drop (rd d).2 (d.take ((rd d).2 + (rd d).1))
          rw [List.take_take, Nat.min_eq_left (by omega)] at this
          exact this
  · rw [if_pos h]
    exact .inr ⟨h, rfl, rfl⟩
theorem RdrV.fr1 {w w' : World} {p q : Nat} {A : Option Addr} {c : Nat} {d : List UInt8} {e : Int} {vs : Array Value} (h : RdrV w q A c d e) (hb : Blk w p vs 50) (hqp : q ≠ p) (hf : Fr1 p w w') : RdrV w' q A c d e :=
  ⟨h.blk.fr1 hf hqp, Rd.frT h.rd h.ty hf hb (by decide), h.ty.fr1 hf hb (by decide)⟩
theorem strl2 (d : List UInt8) : (str d).toList = d := by rw [ByteArray.toList_eq]; exact str_toList d

set_option maxHeartbeats 8000000 in
set_option maxRecDepth 100000 in
theorem wireOnce_any {vb : Value} {d : List UInt8} {w : World} (hb : RdB w vb d) :
    Calls Try.prog 6 #[vb] w fun e w' => e = .returned (.bool true) ∧ Fr0 w w' := by
  obtain ⟨Ab, cb, rfl, hnb, _, _⟩ := hb.form
  have b63 := hb.le63
  by_cases hb2 : 2000 < d.length
  · have q2 : decide (2000 < (d.length : Int)) = true := by simp; omega
    have q3 : decide (2000 < d.length) = true := by simpa using hb2
    clear hb
    go_enter Try.func6, Try.ntmps6
    go_wp2_with (go_at_call 12; refine (known_any _).mono ?_; rintro e w2 ⟨rfl, hf⟩; have F := Lib.hid hf; clear hf)
    go_ret
    exact ⟨rfl, F.out⟩
  have q2 : decide (2000 < (d.length : Int)) = false := by simp; omega
  have q3 : decide (2000 < d.length) = false := by simpa using hb2
  have hd : d.length ≤ 2000 := by omega
  have B := Lib.hid hb
  have h1 := once_num d
  have h2 := once_text d hd
  obtain ⟨⟨n1, d1, e1⟩, hN⟩ : ∃ x, x = rNum d 0 := ⟨_, rfl⟩
  obtain ⟨⟨s1, d2, e2⟩, hT⟩ : ∃ x, x = rText d 0 d.length := ⟨_, rfl⟩
  rw [← hN] at h1
  rw [← hT] at h2
  simp only at h1 h2
  have H1 := Lib.hid h1
  have H2 := Lib.hid h2
  have HN := Lib.hid hN
  have HT := Lib.hid hT
  clear hb hb2 h1 h2 hN hT
  go_enter Try.func6, Try.ntmps6
  go_wp2_with (first
    | (go_at_call 12; refine (known_any _).mono ?_; rintro e w2 ⟨rfl, hf⟩; have F := Lib.hid hf; clear hf)
    | (have _q := R; go_at_call 13; refine (openR_any ((B.out).fr0 F.out) (by omega)).mono ?_; rintro e w3 ⟨q, Aq, cq, rfl, hr, hf, hp, hp2⟩; have P2 := Lib.hid (Nat.le_trans (F.out).size hp); have PQ := Lib.hid (Nat.lt_of_lt_of_le ((R.out).blk.lt) hp); replace R := Lib.hid ((R.out).fr0 hf); replace F := Lib.hid ((F.out).trans hf); have R2 := Lib.hid hr; clear hr hf hp hp2)
    | (go_at_call 13; refine (openR_any ((B.out).fr0 F.out) (by omega)).mono ?_; rintro e w2 ⟨p, A, c, rfl, hr, hf, hp, hp2⟩; have P := Lib.hid (Nat.le_trans (F.out).size hp); replace F := Lib.hid ((F.out).trans hf); have R := Lib.hid hr; clear hr hf hp hp2)
    | (go_at_call 14; refine (rnum_any R.out (by omega)).mono ?_; rintro e w4 ⟨he, hf, A', c', hr⟩; rw [← HN.out] at he hr; simp only at he hr; subst he; replace R2 := Lib.hid ((R2.out).fr1 (R.out).blk (Nat.ne_of_gt PQ.out) hf); replace F := Lib.hid ((F.out).new hf P.out); replace R := Lib.hid hr; clear hf hr))
  go_cut [40] (fun s40 wx => s40 = .bool false ∧ Fr0 w wx ∧ RdrV wx q Aq cq d 0)
  case first =>
    rcases H1.out with ⟨h0, hle, hform, hlt⟩ | h4
    · have b0 : (e1 == 0) = true := by rw [h0]; rfl
      clear h0
      obtain ⟨k, hk⟩ : ∃ k, k = d.length - d1.length := ⟨_, rfl⟩
      have y1 : IntKind.i64.wrap ((d.length : Int) - (d1.length : Int)) = (k : Int) := by rw [IntWalk.i64_in _ (by omega)]; omega
      rw [← hk] at hform
      have hkd : k ≤ d.length := by omega
      have hsl := slice_to (P := Try.prog) (T := 23) (e := 5) Try.underlying23 (fun _ => by kernel_rfl) (k := k) (A := Ab) (n := d.length) (c := cb) (Nat.le_trans hkd hnb)
      have hnum := wireNum_any n1 hlt
      have lX : (form n1).length = k := by rw [hform, List.length_take]; omega
      have hX := Lib.hid (show ((form n1).length = k) from lX)
      have HC := Lib.hid (fun (w' : World) (h : Fr0 w w') => conv_ownN (n := k) (by rw [List.length_take]; omega) (RdB.take ((B.out).fr0 h) hkd))
      rw [← hform] at HC
      obtain ⟨X, hXX⟩ : ∃ X, X = form n1 := ⟨_, rfl⟩
      rw [← hXX] at HC hnum hX
      have HNu := Lib.hid hnum
      clear hk hform hnum lX hXX hle hlt
      replace R := Lib.hid ((R.out).fr0 ((Fr0.refl w4).drew))
      replace R2 := Lib.hid ((R2.out).fr0 ((Fr0.refl w4).drew))
      replace F := Lib.hid ((F.out).drew)
      go_region_held_law (fun w' => (convert 23 9 (.slice Ab k cb)).run Try.prog w' = .ok (.string (str X)) w') (first | exact HC.out _ F.out) (first
        | (go_at_call 21; refine (rerr_any R.out).mono ?_; rintro e w5 ⟨rfl, rfl⟩)
        | (go_at_call 11; refine (HNu.out _).mono ?_; rintro e w5 ⟨v, rfl, hown, hf⟩; obtain ⟨A9, c9, rfl, -, hct⟩ := own_text hown; replace F := Lib.hid ((F.out).trans hf); replace R := Lib.hid ((R.out).fr0 hf); replace R2 := Lib.hid ((R2.out).fr0 hf); clear hf hown)
        | (go_at_call 15; refine (rleft_any R.out).mono ?_; rintro e w5 ⟨rfl, rfl⟩))
      all_goals (go_wp2_with fail; go_meet; exact ⟨rfl, F.out, R2.out⟩)
    · have b0 : (e1 == 0) = false := by rw [h4]; decide
      clear h4
      go_quiet (first
        | (go_at_call 21; exact Calls.quiet_of_same (rerr_any ((R.out).fr0 ((Fr0.refl w4).drewN _)))))
      go_wp2_with fail
      go_meet
      exact ⟨rfl, (F.out).drewN _, (R2.out).fr0 ((Fr0.refl _).drewN _)⟩
  case rest =>
    obtain ⟨rfl, hf, hr⟩ := hcut
    clear R R2 F
    have F := Lib.hid hf
    have R2 := Lib.hid hr
    clear hf hr
    go_wp2_with (first
      | (go_at_call 22; refine (rtext_any R2.out (by omega) (by omega)).mono ?_; rintro e w4 ⟨v, rfl, hown, hf, A', c', hr⟩; rw [← HT.out] at hown hr; simp only at hown hr; obtain ⟨A8, c8, rfl, hrs, -⟩ := own_text hown; replace F := Lib.hid ((F.out).new hf P2.out); replace R2 := Lib.hid hr; have RS := Lib.hid hrs; clear hf hr hown hrs))
    rcases H2.out with ⟨h0, hle, hform, hlt⟩ | ⟨h0, h3, h4⟩
    · have b0 : (e2 == 0) = true := by rw [h0]; rfl
      have b1 : (e2 != 0) = false := by rw [h0]; rfl
      clear h0
      obtain ⟨k, hk⟩ : ∃ k, k = d.length - d2.length := ⟨_, rfl⟩
      have y1 : IntKind.i64.wrap ((d.length : Int) - (d2.length : Int)) = (k : Int) := by rw [IntWalk.i64_in _ (by omega)]; omega
      rw [← hk] at hform
      have hkd : k ≤ d.length := by omega
      have hsl := slice_to (P := Try.prog) (T := 23) (e := 5) Try.underlying23 (fun _ => by kernel_rfl) (k := k) (A := Ab) (n := d.length) (c := cb) (Nat.le_trans hkd hnb)
      have htx := wireText_any ((RS.out).fr0 ((Fr0.refl w4).drew)) (by omega)
      have lX : (textForm s1).length = k := by rw [hform, List.length_take]; omega
      have HC := Lib.hid (fun (w' : World) (h : Fr0 w w') => conv_ownN (n := k) (by rw [List.length_take]; omega) (RdB.take ((B.out).fr0 h) hkd))
      rw [← hform] at HC
      obtain ⟨X, hXX⟩ : ∃ X, X = textForm s1 := ⟨_, rfl⟩
      rw [← hXX] at HC htx lX
      have HNu := Lib.hid htx
      have z9 : X.length ≤ 2000 := by omega
      replace R2 := Lib.hid ((R2.out).fr0 ((Fr0.refl w4).drew))
      replace F := Lib.hid ((F.out).drew)
      clear hk hform htx lX hXX hle
      first
        | (go_region_held_law (fun w' => (convert 23 9 (.slice Ab k cb)).run Try.prog w' = .ok (.string (str X)) w') (first | exact HC.out _ F.out) (first
            | (go_at_call 21; refine (rerr_any R2.out).mono ?_; rintro e w5 ⟨rfl, rfl⟩)
            | (go_at_call 17; refine (HNu.out).mono ?_; rintro e w5 ⟨v, rfl, hown, hf⟩; obtain ⟨A9, c9, rfl, -, hct⟩ := own_text hown; replace F := Lib.hid ((F.out).trans hf); replace R2 := Lib.hid ((R2.out).fr0 hf); clear hf hown)
            | (go_at_call 15; refine (rleft_any R2.out).mono ?_; rintro e w5 ⟨rfl, rfl⟩)))
        | fail "no"
      all_goals (go_wp2_with fail; go_ret; exact ⟨rfl, F.out⟩)
    · have b0 : (e2 == 0) = false := by simpa using h0
      have b1 : (e2 != 0) = true := by simpa using h0
      subst h3 h4
      clear h0
      go_quiet (first
        | (go_at_call 21; exact Calls.quiet_of_same (rerr_any ((R2.out).fr0 ((Fr0.refl w4).drewN _))))
        | (go_at_call 15; exact Calls.quiet_of_same (rleft_any ((R2.out).fr0 ((Fr0.refl w4).drewN _)))))
      go_wp2_with fail
      go_ret
      exact ⟨rfl, (F.out).drewN _⟩

namespace WireOnce
open Go.ChangeShapes Go.WideShapes Go.ChangeAt
open Go.ChangeMaps (open_string shut_string)

theorem own : ownKnob Try.prog.godebug = none := by kernel_rfl
theorem laidOut : laidOutB Try.prog = true := by kernel_rfl

set_option maxRecDepth 100000 in
theorem lifted (os : Os) (started : os.Started) (H : Type) (enc : TypeId × Value → H) :
    ReturnsInHanded {} Try.checked os 6 .any (Rows.wireOnceSpec.pre6 enc Try.prog Try.f6 Rows.wireOnceRow.domain false) (Rows.wireOnceSpec.post enc Try.prog Try.f6 false true false false) := by
  refine returnsInHanded_of_change (C := Try.checked) own started (by kernel_rfl) Try.func6
    (ChangeSpec.witness6 (enc := enc) (C := Try.checked) false ⟨#[], #[.slice none 0 0], []⟩ 8 (by kernel_rfl) (by kernel_rfl) (by kernel_rfl) (by kernel_rfl)) ?_
  intro W base args ds gs before hval0 hW hcnd _
  have hval : ∀ (j : Nat) t v, Try.f6.params[j]? = some t → args[j]? = some v → Value.okWide Try.prog W .any base t v := hval0
  have hW' := hW
  obtain ⟨p, q, hA0, hV, rfl, hfz, hnd⟩ := hW
  have hA : DataW.TrodAll enc Try.prog W 0 (fun _ => true) true Try.f6.params.toList args.toList ds p := hA0
  rw [Try.params6] at hA hval
  obtain ⟨v0, vs0, d0', ds0, p0, q0, hargs, rfl, rfl, h0, r0⟩ := trodAll_cons hA
  obtain ⟨rfl, rfl, rfl⟩ := trodAll_nil r0
  obtain rfl : args = #[v0] := by cases args; simp_all
  obtain ⟨rfl, rfl⟩ := trodVars_none hV
  have k0 := h0
  have lt0 : ∀ x ∈ p0, x.block < W.heap.size := by obtain ⟨m, hm⟩ := k0; exact DataW.trod_lt m _ _ _ hm
  obtain ⟨A0, n0, c0, rfl⟩ := okWide_slice Try.underlying23 (hval 0 23 v0 rfl rfl)
  obtain ⟨fuel0, hf0⟩ := h0
  obtain ⟨d0, hy0⟩ := arg_bytes Try.underlying23 Try.underlying5 (by kernel_rfl) hf0
  clear hA0 hval0
  refine (wireOnce_any hy0).mono fun e W' ⟨he, hfr⟩ => ?_
  have bel : Below W.heap.size W W' := Fr0.below hfr
  subst he
  exact ⟨_, rfl, _, _, _, [], _, [], hW', trodAll_mk1 (shut_bool Try.underlying4 _), (trodAll_cons_mk (Below.trod laidOut (by kernel_rfl) (of_decide_eq_true (by kernel_rfl)) k0 bel lt0) trodAll_mk0), rfl, bel.frame _, fun h => by cases h⟩

theorem over : Rows.wireOnceRow.holds Try.pinned (OpenSpec.ofChange Rows.wireOnceSpec) :=
  OpenClaim.holds_of_wide 6 Try.f6 rfl rfl rfl rfl rfl rfl rfl ⟨rfl, rfl, rfl, rfl, rfl⟩ rfl rfl rfl rfl rfl (by kernel_rfl) Try.func6 (by kernel_rfl)
    (of_decide_eq_true (by kernel_rfl)) (by unfold Func.isWrapper; first | (rw [if_pos (by decide +kernel)]; kernel_rfl) | (rw [if_neg (by decide +kernel)]; exact ⟨rfl, rfl⟩))
    (fun os started H enc _ => lifted os started H enc)

theorem proved : Rows.WireOnceSaid := over
#print axioms proved
end WireOnce
end Go.Proofs.Ythgmimeheeajgaa
