/- ShaSums: the digest of any bytes, in whatever pieces, is the document's: the law returns true for any pieces. No condition. -/
import Derived.Test.YtinajkhnfebgcaaShaEq
import Derived.Test.YtinajkhnfebgcaaArgsBp
import Derived.Handy
set_option linter.unusedSimpArgs false
namespace Go.Proofs.Ytinajkhnfebgcaa
open Go.RowKit

theorem snd_at (l : List (Value × List UInt8)) (k : Nat) (h : k < l.length) : ((l.map (·.2)).take (k + 1)).flatten = ((l.map (·.2)).take k).flatten ++ l[k].2 := by
  rw [List.take_succ_eq_append_getElem (by simpa using h), List.flatten_append]; simp
set_option maxHeartbeats 2000000 in
set_option maxRecDepth 10000 in
theorem sums_any {lv : Value} {l : List (Value × List UInt8)} {w : World} (h : Rd w 1 lv l.length (flat bpC l)) (hz : ∀ x ∈ l, BpIn w x) : Calls Try.prog 4 #[lv] w fun e w' => e = .returned (.bool true) ∧ Fr0 w w' := by
  have l63 := h.le63
  obtain ⟨Av, cv, rfl, -, -, -⟩ := h.form
  have HKN := Lib.hid (fun W => known02_any W)
  have HR := Lib.hid h
  have HZ := Lib.hid hz
  obtain ⟨L, hL⟩ : ∃ n, n = l.length := ⟨_, rfl⟩
  rw [← hL] at l63 ⊢
  have HL := Lib.hid hL
  clear h hz hL
  go_enter Try.func4, Try.ntmps4
  go_wp2_with (go_at_call 13; refine (HKN.out _).mono ?_; rintro e w1 ⟨rfl, hf⟩; have F1 := Lib.hid hf; clear hf)
  go_loopw [3, 4] (fun v3 v4 wr => ∃ (k : Nat) (A : Option Addr) (n c : Nat), k ≤ L ∧ k ≤ 40 ∧ v4 = .int .i64 k ∧ Hid (n = ((l.map (·.2)).take k).flatten.length) ∧ n ≤ 4000 ∧ v3 = .slice A n c ∧ SlO w.heap.size wr (.slice A n c) ((l.map (·.2)).take k).flatten ∧ Fr0 w wr) (fun _ v4 _ => L - (intOf v4).toNat)
  case atStart => exact ⟨0, none, 0, 0, by omega, by omega, rfl, Lib.hid rfl, by omega, rfl, SlO.nil _ _, F1.out⟩
  case round =>
    obtain ⟨k, A, n, c, hk, hk40, rfl, hn, hn4, rfl, hS, hF⟩ := hrel
    have i0 : (0 : Int) ≤ (k : Int) := by omega
    by_cases hlt : k < L
    · by_cases h40 : k < 40
      · have hkd : k < l.length := by rw [← HL.out]; exact hlt
        have HR2 := (HR.out).fr0 hF
        rw [← HL.out] at HR2
        obtain ⟨g, off, hA, hkc, hgl, hcells⟩ := HR2.cellA hlt
        subst hA
        have hrb : RdB w l[k].1 l[k].2 := (HZ.out) _ (List.getElem_mem hkd)
        have dk := hcells 0 l[k].1 (by simpa using flat_bp_at l k hkd)
        simp only [Nat.mul_one, Nat.add_zero] at dk
        have hfl := snd_at l k hkd
        obtain ⟨Ae, ce, hv, -, -, -⟩ := hrb.form
        obtain ⟨de, hde⟩ : ∃ d, d = l[k].2 := ⟨_, rfl⟩
        rw [hv] at dk hrb
        rw [← hde] at hfl dk hrb
        obtain ⟨el, hel⟩ : ∃ n, n = de.length := ⟨_, rfl⟩
        rw [← hel] at dk hrb
        have i1 : (k : Int) < (L : Int) := by omega
        have HEL := Lib.hid hel
        have HFL := Lib.hid hfl
        have HS := Lib.hid hS
        have HF := Lib.hid hF
        have HRB := Lib.hid hrb
        by_cases hle : n + el ≤ 4000
        · have HN := Lib.hid hn.out
          have hl1 := Lib.hid (show ((l.map (·.2)).take k).flatten.length + de.length ≤ 1000000 by rw [← hn.out, ← hel]; omega)
          clear hS hF hrb hfl hel hde hv hcells hkd HR2 hgl
          go_wp2_with (refine list_append_sl (base := w.heap.size) (d := ((l.map (·.2)).take k).flatten) (e := de) rfl _ _ rfl HS.out rfl (HF.out).size ((HRB.out).fr0 HF.out) rfl hl1.out ?_; intro A3 c3 w3 hS hF hK; have S3 := Lib.hid hS; have F3 := Lib.hid (show Fr0 w w3 from Fr.then HF.out hF (fun i hi hlt => absurd ((HS.out).lo i hi).1 (by omega))); rw [show ((l.map (·.2)).take k).flatten.length + de.length = n + el from by rw [HN.out, HEL.out]]; clear hS hF hK)
          go_roundw
          case measure => simp [intOf]; omega
          case rel =>
            have h := S3.out
            rw [← HFL.out] at h
            have e : ((l.map (·.2)).take (k + 1)).flatten.length = n + el := by rw [HFL.out, List.length_append, HN.out, HEL.out]
            rw [e] at h
            exact ⟨k + 1, A3, n + el, c3, by omega, by omega, by go_num, Lib.hid e.symm, by omega, rfl, h, F3.out⟩
        · clear hS hrb hfl hel hde hv hcells hkd HR2 hgl
          go_wp2_with fail
          go_ret
          exact ⟨rfl, hF⟩
      · obtain rfl : k = 40 := by omega
        go_wp2_with fail
        go_ret
        exact ⟨rfl, hF⟩
    · obtain rfl : k = L := by omega
      have hN := hn.out
      rw [List.take_of_length_le (by rw [List.length_map, ← HL.out]; omega)] at hN hS
      have HS := Lib.hid hS
      have HF := Lib.hid hF
      have HP := Lib.hid (show Calls Try.prog 14 #[.slice Av k cv] wr (fun e w' => e = .returned (.agg (byts (shaN (l.map (·.2)).flatten)).toArray) ∧ Fr0 wr w') from by
        have h := (HR.out).fr0 hF
        refine sum_any (ds := l.map (·.2)) (vs := flat bpC l) (by rw [List.length_map]; rw [← HL.out] at h ⊢; exact h) (fun i hi => ?_) (by rw [← hN]; omega)
        rw [List.length_map] at hi
        exact ⟨l[i].1, flat_bp_at l i hi, by rw [List.getElem_map]; exact RdB.fr0 ((HZ.out) _ (List.getElem_mem hi)) hF⟩)
      have HQ := Lib.hid (fun (W : World) (hf : Fr0 wr W) => show Calls Try.prog 15 #[.slice A n c] W (fun e w' => e = .returned (.agg (byts (shaN (l.map (·.2)).flatten)).toArray) ∧ Fr0 W w') from
        rsum_any (hS.rd.fr0 hf) (by rw [← hN]; omega))
      have HE := Lib.hid (fun W => dig_eql (sha_len (l.map (·.2)).flatten) (sha_len (l.map (·.2)).flatten) W)
      rw [decide_eq_true rfl] at HE
      obtain ⟨s0, hs0⟩ : ∃ s, s = (byts (shaN (l.map (·.2)).flatten)).toArray := ⟨_, rfl⟩
      rw [← hs0] at HP HQ HE
      clear hs0 hN hn hS hF hlt
      go_wp2_with (first
        | (go_at_call 14; refine (HP.out).mono ?_; rintro e w4 ⟨rfl, hf⟩; have F4 := Lib.hid hf; clear hf)
        | (go_at_call 15; refine (HQ.out _ F4.out).mono ?_; rintro e w5 ⟨rfl, hf⟩; have F5 := Lib.hid (Fr0.trans HF.out (Fr0.trans F4.out hf)); clear hf)
        | (refine list_binop rfl .eql 28 _ _ _ rfl _ _ _ rfl rfl (dig_guard _ _ _ _ _ _) (HE.out _) ?_))
      go_ret
      exact ⟨rfl, F5.out⟩
namespace ShaSums
open Go.ChangeShapes Go.WideShapes Go.ChangeAt
open Go.ChangeMaps (open_string shut_string)

theorem own : ownKnob Try.prog.godebug = none := by kernel_rfl
theorem laidOut : laidOutB Try.prog = true := by kernel_rfl

set_option maxRecDepth 100000 in
theorem lifted (os : Os) (started : os.Started) (H : Type) (enc : TypeId × Value → H) :
    ReturnsInHanded {} Try.checked os 4 .any (Rows.shaSumsSpec.pre6 enc Try.prog Try.f4 Rows.shaSumsRow.domain false) (Rows.shaSumsSpec.post enc Try.prog Try.f4 false true false false) := by
  refine returnsInHanded_of_change (C := Try.checked) own started (by kernel_rfl) Try.func4
    (ChangeSpec.witness6 (enc := enc) (C := Try.checked) false ⟨#[], #[.slice none 0 0], []⟩ 8 (by kernel_rfl) (by kernel_rfl) (by kernel_rfl) (by kernel_rfl)) ?_
  intro W base args ds gs before hval0 hW hcnd _
  have hval : ∀ (j : Nat) t v, Try.f4.params[j]? = some t → args[j]? = some v → Value.okWide Try.prog W .any base t v := hval0
  have hW' := hW
  obtain ⟨p, q, hA0, hV, rfl, hfz, hnd⟩ := hW
  have hA : DataW.TrodAll enc Try.prog W 0 (fun _ => true) true Try.f4.params.toList args.toList ds p := hA0
  rw [Try.params4] at hA hval
  obtain ⟨v0, vs0, d0', ds0, p0, q0, hargs, rfl, rfl, h0, r0⟩ := trodAll_cons hA
  obtain ⟨rfl, rfl, rfl⟩ := trodAll_nil r0
  obtain rfl : args = #[v0] := by cases args; simp_all
  obtain ⟨rfl, rfl⟩ := trodVars_none hV
  have k0 := h0
  have lt0 : ∀ x ∈ p0, x.block < W.heap.size := by obtain ⟨m, hm⟩ := k0; exact DataW.trod_lt m _ _ _ hm
  obtain ⟨A0, n0, c0, rfl⟩ := okWide_slice Try.underlying26 (hval 0 26 v0 rfl rfl)
  obtain ⟨fuel0, hf0⟩ := h0
  obtain ⟨l0, hy0, hz0⟩ := arg_of bpC (BpIn W) (by decide) bpC_len Try.underlying26 (by kernel_rfl) (fun n cs x h => (fun h => read_bp Try.underlying27 Try.underlying5 (by kernel_rfl) h) h) hf0
  clear hA0 hval0
  refine (sums_any hy0 hz0).mono fun e W' ⟨he, hfr⟩ => ?_
  have bel : Below W.heap.size W W' := Fr0.below hfr
  subst he
  exact ⟨_, rfl, _, _, _, [], _, [], hW', trodAll_mk1 (shut_bool Try.underlying4 _), (trodAll_cons_mk (Below.trod laidOut (by kernel_rfl) (of_decide_eq_true (by kernel_rfl)) k0 bel lt0) trodAll_mk0), rfl, bel.frame _, fun h => by cases h⟩

theorem over : Rows.shaSumsRow.holds Try.pinned (OpenSpec.ofChange Rows.shaSumsSpec) :=
  OpenClaim.holds_of_wide 4 Try.f4 rfl rfl rfl rfl rfl rfl rfl ⟨rfl, rfl, rfl, rfl, rfl⟩ rfl rfl rfl rfl rfl (by kernel_rfl) Try.func4 (by kernel_rfl)
    (of_decide_eq_true (by kernel_rfl)) (by unfold Func.isWrapper; first | (rw [if_pos (by decide +kernel)]; kernel_rfl) | (rw [if_neg (by decide +kernel)]; exact ⟨rfl, rfl⟩))
    (fun os started H enc _ => lifted os started H enc)

theorem proved : Rows.ShaSumsSaid := over
#print axioms proved
end ShaSums
end Go.Proofs.Ytinajkhnfebgcaa
