/- MacOf: the mark of any text, in whatever pieces, under any key is the document's; what is handed in stays: the law returns true for any key and pieces. No condition. -/
import Derived.Test.YtjkcbklgddnbdaaMacKnown
import Derived.Test.YtjkcbklgddnbdaaMacROf
import Derived.Test.YtjkcbklgddnbdaaArgsBp
import Derived.Test.YtjkcbklgddnbdaaWLits
import Derived.Handy
set_option linter.unusedSimpArgs false
namespace Go.Proofs.Ytjkcbklgddnbdaa
open Go.RowKit

theorem snd_at (l : List (Value × List UInt8)) (k : Nat) (h : k < l.length) : ((l.map (·.2)).take (k + 1)).flatten = ((l.map (·.2)).take k).flatten ++ l[k].2 := by
  rw [List.take_succ_eq_append_getElem (by simpa using h), List.flatten_append]; simp
/-- 'v[:h]', of a slice that has room. -/
theorem slice_h (w : World) (A : Option Addr) (n c h : Nat) (hh : h ≤ c) : (Instr.slice 22 (.slice A n c) none (some (.int .i64 (h : Int))) none).run Try.prog w = .ok (.slice A h c) w := by
  have ht := Try.underlying22
  have hel : Try.prog.elem 22 = 5 := by simp [Program.elem, ht]
  rw [run_slice_h (w := w) 22 A n c (by rw [hel]; exact ht) .i64 (h : Int) (by omega) (by omega), hel]
  have hs : (sizeOf 5).run Try.prog w = .ok 1 w := by
    obtain ⟨i, hi, _, hz1, _⟩ := info_parts infoB
    simp [sizeOf, typeInfo, hi, hz1]
  rw [hs]
  show Result.ok (sliced A 0 (h : Int).toNat c 1) w = _
  unfold sliced
  have hA : A.map (·.add (0 * 1)) = A := by cases A <;> simp [Addr.add]
  rw [hA, ite_self, Int.toNat_natCast, Nat.sub_zero, Nat.sub_zero]
theorem slice_h2 (w : World) (A : Option Addr) (n c h : Nat) (i : Int) (hi : i = h) (hh : h ≤ c) : (Instr.slice 22 (.slice A n c) none (some (.int .i64 i)) none).run Try.prog w = .ok (.slice A h c) w := by
  subst hi
  exact slice_h w A n c h hh
theorem str_app (d e : List UInt8) : str (d ++ e) = str d ++ str e := by
  unfold str
  rw [← List.append_toArray]
  show _ = ByteArray.append _ _
  apply ByteArray.ext
  simp
theorem mof_pairs {kv : Value} {Av : Option Addr} {k cv : Nat} {key : List UInt8} {l : List (Value × List UInt8)} {W : World} (hk : RdB W kv key) (hkl : key.length ≤ 900000) (hL : k = l.length) (h : Rd W 1 (.slice Av l.length cv) l.length (flat bpC l)) (hz : ∀ x ∈ l, BpIn W x) (hl : (l.map (·.2)).flatten.length ≤ 800000) :
    Calls Try.prog 8 #[kv, .slice Av k cv] W fun e w' => e = .returned (.agg (byts (macN key (l.map (·.2)).flatten)).toArray) ∧ Fr0 W w' := by
  subst hL
  have h1 := mof_any (ds := l.map (·.2)) (vs := flat bpC l) (lv := .slice Av l.length cv) hk hkl (by rw [List.length_map]; exact h) (fun i hi => by
    rw [List.length_map] at hi
    exact ⟨l[i].1, flat_bp_at l i hi, by rw [List.getElem_map]; exact hz _ (List.getElem_mem hi)⟩)
  exact h1 hl
set_option maxHeartbeats 1500000 in
set_option maxRecDepth 10000 in
theorem lof_any {kv lv : Value} {key : List UInt8} {l : List (Value × List UInt8)} {w : World} (hk : RdB w kv key) (h : Rd w 1 lv l.length (flat bpC l)) (hz : ∀ x ∈ l, BpIn w x) : Calls Try.prog 3 #[kv, lv] w fun e w' => e = .returned (.bool true) ∧ Fr0 w w' := by
  have l63 := h.le63
  obtain ⟨Av, cv, rfl, -, -, -⟩ := h.form
  obtain ⟨Ak, ck, rfl, hk1, hk2, -⟩ := hk.form
  unfold maxLen at hk2
  have HKN := Lib.hid (fun W => known03_any W)
  have HR := Lib.hid h
  have HZ := Lib.hid hz
  have HK := Lib.hid (show RdB w (.slice Ak key.length ck) key from hk)
  obtain ⟨L, hL⟩ : ∃ n, n = l.length := ⟨_, rfl⟩
  obtain ⟨nk, hnk⟩ : ∃ n, n = key.length := ⟨_, rfl⟩
  rw [← hL] at l63 ⊢
  rw [← hnk] at HK hk1 ⊢
  have HL := Lib.hid hL
  have HNK := Lib.hid hnk
  have hnk63 : (nk : Int) ≤ 9223372036854775807 := by omega
  clear h hz hL hnk hk hk1
  go_enter Try.func3, Try.ntmps3
  go_wp2_with (go_at_call 7; refine (HKN.out _).mono ?_; rintro e w1 ⟨rfl, hf⟩; have F1 := Lib.hid hf; clear hf)
  go_loopw [5, 6] (fun v3 v4 wr => ∃ (k : Nat) (A : Option Addr) (n c : Nat), k ≤ L ∧ k ≤ 20 ∧ v4 = .int .i64 k ∧ Hid (n = ((l.map (·.2)).take k).flatten.length) ∧ n ≤ 2000 ∧ v3 = .slice A n c ∧ SlO w.heap.size wr (.slice A n c) ((l.map (·.2)).take k).flatten ∧ Fr0 w wr) (fun _ v4 _ => L - (intOf v4).toNat)
  case atStart => exact ⟨0, none, 0, 0, by omega, by omega, rfl, Lib.hid rfl, by omega, rfl, SlO.nil _ _, F1.out⟩
  case round =>
    obtain ⟨k, A, n, c, hk, hk40, rfl, hn, hn4, rfl, hS, hF⟩ := hrel
    have i0 : (0 : Int) ≤ (k : Int) := by omega
    by_cases hlt : k < L
    · by_cases h40 : k < 20
      · have hkd : k < l.length := by rw [← HL.out]; exact hlt
        have HR2 := (HR.out).fr0 hF
        rw [← HL.out] at HR2
        obtain ⟨g, off, hA, hkc, hgl, hcells⟩ := HR2.cellA hlt
        subst hA
        have hrb : RdB w l[k].1 l[k].2 := (HZ.out) _ (List.getElem_mem hkd)
        have dk := hcells 0 l[k].1 (by simpa using flat_bp_at l k hkd)
        simp only [Nat.mul_one, Nat.add_zero] at dk
        have hfl := snd_at l k hkd
        obtain ⟨Ae, ce, hv, -, -, -⟩ := hrb.form
        obtain ⟨de, hde⟩ : ∃ d, d = l[k].2 := ⟨_, rfl⟩
        rw [hv] at dk hrb
        rw [← hde] at hfl dk hrb
        obtain ⟨el, hel⟩ : ∃ n, n = de.length := ⟨_, rfl⟩
        rw [← hel] at dk hrb
        have i1 : (k : Int) < (L : Int) := by omega
        have HEL := Lib.hid hel
        have HFL := Lib.hid hfl
        have HS := Lib.hid hS
        have HF := Lib.hid hF
        have HRB := Lib.hid hrb
        by_cases hle : n + el ≤ 2000
        · have HN := Lib.hid hn.out
          have hl1 := Lib.hid (show ((l.map (·.2)).take k).flatten.length + de.length ≤ 1000000 by rw [← hn.out, ← hel]; omega)
          clear hS hF hrb hfl hel hde hv hcells hkd HR2 hgl
          go_wp2_with (refine list_append_sl (base := w.heap.size) (d := ((l.map (·.2)).take k).flatten) (e := de) rfl _ _ rfl HS.out rfl (HF.out).size ((HRB.out).fr0 HF.out) rfl hl1.out ?_; intro A3 c3 w3 hS hF hK; have S3 := Lib.hid hS; have F3 := Lib.hid (show Fr0 w w3 from Fr.then HF.out hF (fun i hi hlt => absurd ((HS.out).lo i hi).1 (by omega))); rw [show ((l.map (·.2)).take k).flatten.length + de.length = n + el from by rw [HN.out, HEL.out]]; clear hS hF hK)
          go_roundw
          case measure => simp [intOf]; omega
          case rel =>
            have h := S3.out
            rw [← HFL.out] at h
            have e : ((l.map (·.2)).take (k + 1)).flatten.length = n + el := by rw [HFL.out, List.length_append, HN.out, HEL.out]
            rw [e] at h
            exact ⟨k + 1, A3, n + el, c3, by omega, by omega, by go_num, Lib.hid e.symm, by omega, rfl, h, F3.out⟩
        · clear hS hrb hfl hel hde hv hcells hkd HR2 hgl
          go_wp2_with fail
          go_ret
          exact ⟨rfl, hF⟩
      · obtain rfl : k = 20 := by omega
        go_wp2_with fail
        go_ret
        exact ⟨rfl, hF⟩
    · obtain rfl : k = L := by omega
      have hN := hn.out
      rw [List.take_of_length_le (by rw [List.length_map, ← HL.out]; omega)] at hN hS
      have HS := Lib.hid hS
      have HF := Lib.hid hF
      by_cases h200 : nk ≤ 200
      · have HKL := Lib.hid (show key.length ≤ 900000 by rw [← HNK.out]; omega)
        have HTL := Lib.hid (show (l.map (·.2)).flatten.length ≤ 800000 by rw [← hN]; omega)
        clear hN hn hS hF hlt
        go_upto_region 13 with (first
          | (have _q := S8; refine list_append_sl (base := wr.heap.size) (d := key) (e := [9, 9]) rfl _ _ rfl ((S8.out).fr0 ((Fr0.refl w8).alloc _)) rfl ?_ ?_ rfl ?_ ?_; · (have := (F8.out).size; simp; omega)
             · exact lit_bytes w8 5 [9, 9] (by simp) (0, 0)
             · (have := HKL.out; simp; omega)
             intro A9 c9 w9 hS hF hK; have S9 := Lib.hid (show SlO wr.heap.size w9 (.slice A9 (nk + 2) c9) (key ++ [9, 9]) from by have h := hS; rw [show (key ++ [(9 : UInt8), 9]).length = nk + 2 from by rw [List.length_append, HNK.out]; rfl] at h; exact h); have F9 := Lib.hid (((S8.out).fr0 ((Fr0.refl w8).alloc _)).thenFr ((F8.out).alloc _) hF); have HSL := Lib.hid (fun W => slice_h2 W A9 nk c9 (nk + 2) ((nk : Int) + 2) (by omega) (by obtain ⟨A', c', hv, hm, _⟩ := hS.form; injection hv with _ _ hc; rw [List.length_append] at hm; rw [HNK.out, hc]; exact hm)); have hsl := fun W => slice_h W A9 (nk + 2) c9 nk (by obtain ⟨A', c', hv, hm, _⟩ := hS.form; injection hv with _ _ hc; rw [List.length_append] at hm; rw [HNK.out, hc]; exact Nat.le_trans (Nat.le_add_right _ _) hm); rw [show key.length + [(9 : UInt8), 9].length = nk + 2 from by rw [HNK.out]; rfl]; clear hS hF hK)
          | (refine list_append_sl (base := wr.heap.size) (d := []) (e := key) rfl _ _ rfl (SlO.new0 (Nat.le_refl _)) rfl (by simp) ((HK.out).fr0 (Fr0.trans HF.out ((Fr0.refl wr).alloc _))) rfl (by have := HKL.out; simp; omega) ?_; intro A8 c8 w8 hS hF hK; have S8 := Lib.hid (show SlO wr.heap.size w8 (.slice A8 nk c8) key from by rw [HNK.out]; exact hS); have F8 := Lib.hid ((SlO.new0 (Nat.le_refl _)).thenFr ((Fr0.refl wr).alloc _) hF); rw [show ([] : List UInt8).length + key.length = nk from by rw [HNK.out]; exact Nat.zero_add _]; clear hS hF hK))
        clear hsl
        have FW := Lib.hid (Fr0.trans HF.out F9.out)
        have ROWN := Lib.hid (show RdB w9 (.slice A9 nk c9) key from by
          have h := (S9.out).rd
          have h2 := RdB.take (k := nk) (by rw [show (key ++ [(9 : UInt8), 9]).length = nk + 2 from by rw [List.length_append, HNK.out]; rfl]; exact h) (by rw [List.length_append, HNK.out]; omega)
          rw [List.take_append_of_le_length (by rw [HNK.out]; exact Nat.le_refl _), List.take_of_length_le (by rw [HNK.out]; exact Nat.le_refl _)] at h2
          exact h2)
        have HMO := Lib.hid (fun W (hf : Fr0 w9 W) => mof_pairs ((ROWN.out).fr0 hf) HKL.out HL.out ((HR.out).fr0 (Fr0.trans FW.out hf)) (fun x hx => RdB.fr0 ((HZ.out) x hx) (Fr0.trans FW.out hf)) HTL.out)
        have HRO := Lib.hid (fun W (hf : Fr0 w9 W) => show Calls Try.prog 9 #[.slice Ak nk ck, .slice A n c] W (fun e w' => e = .returned (.agg (byts (macN key (l.map (·.2)).flatten)).toArray) ∧ Fr0 W w') from
          rof_any ((HK.out).fr0 (Fr0.trans FW.out hf)) HKL.out ((HS.out).rd.fr0 (Fr0.trans F9.out hf)) HTL.out)
        have HE := Lib.hid (fun W => dig_eql (macN_len key (l.map (·.2)).flatten) (macN_len key (l.map (·.2)).flatten) W)
        rw [decide_eq_true rfl] at HE
        have HC9 := Lib.hid (fun W (hf : Fr0 w9 W) => show (convert 22 9 (.slice A9 (nk + 2) c9)).run Try.prog W = .ok (.string (str key ++ ⟨#[9, 9]⟩)) W from by
          have h := conv_bytes W 22 9 5 Try.underlying22 Try.underlying5 Try.underlying9 (A := A9) (c := c9) (d := key ++ [9, 9]) (by rw [show (key ++ [(9 : UInt8), 9]).length = nk + 2 from by rw [List.length_append, HNK.out]; rfl]; exact (S9.out).rd.fr0 hf)
          rw [show (key ++ [(9 : UInt8), 9]).length = nk + 2 from by rw [List.length_append, HNK.out]; rfl, str_app] at h
          exact h)
        have HCK := Lib.hid (fun W (hf : Fr0 w9 W) => show (convert 22 9 (.slice Ak nk ck)).run Try.prog W = .ok (.string (str key)) W from by
          have h := conv_bytes W 22 9 5 Try.underlying22 Try.underlying5 Try.underlying9 (A := Ak) (c := ck) (d := key) (by rw [← HNK.out]; exact (HK.out).fr0 (Fr0.trans FW.out hf))
          rw [← HNK.out] at h
          exact h)
        obtain ⟨s0, hs0⟩ : ∃ s, s = (byts (macN key (l.map (·.2)).flatten)).toArray := ⟨_, rfl⟩
        obtain ⟨sk, hsk⟩ : ∃ s, s = str key := ⟨_, rfl⟩
        rw [← hs0] at HMO HRO HE
        rw [← hsk] at HC9 HCK
        have HSK := Lib.hid (show sk.size ≤ 200 by rw [hsk, str_size, ← HNK.out]; exact h200)
        have hwr : IntKind.i64.wrap ((nk : Int) + 2) = (nk : Int) + 2 := IntWalk.i64_in _ (by omega)
        clear hs0 hsk
        refine wp_region_class (fun W => Fr0 w9 W) (by kernel_rfl) (by kernel_rfl) ((Fr0.refl _).drew) ?_
        refine q_val rfl (fun W hW => by go_simp; try rfl) ?_
        simp only [Act.put, List.setIfInBounds_toArray, List.set_cons_zero, List.set_cons_succ]
        refine q_val rfl (fun W hW => by go_simp; try rfl) ?_
        simp only [Act.put, List.setIfInBounds_toArray, List.set_cons_zero, List.set_cons_succ]
        refine q_call rfl 8 #[.slice A9 nk c9, .slice Av k cv] (fun _ => by go_simp; try rfl) (fun W hW => (HMO.out W hW).mono (fun e w' ⟨he, hf⟩ => ⟨he, Fr0.trans hW hf⟩)) ?_
        simp only [Act.put, List.setIfInBounds_toArray, List.set_cons_zero, List.set_cons_succ]
        refine q_val rfl (fun W hW => by go_simp; try rfl) ?_
        simp only [Act.put, List.setIfInBounds_toArray, List.set_cons_zero, List.set_cons_succ]
        refine q_val rfl (fun W hW => by go_simp; try rfl) ?_
        simp only [Act.put, List.setIfInBounds_toArray, List.set_cons_zero, List.set_cons_succ]
        refine q_call rfl 9 #[.slice Ak nk ck, .slice A n c] (fun _ => by go_simp; try rfl) (fun W hW => (HRO.out W hW).mono (fun e w' ⟨he, hf⟩ => ⟨he, Fr0.trans hW hf⟩)) ?_
        simp only [Act.put, List.setIfInBounds_toArray, List.set_cons_zero, List.set_cons_succ]
        refine q_bin rfl .eql 25 _ _ _ rfl (fun w => dig_guard _ _ _ _ _ w) HE.out ?_
        simp only [Act.put, List.setIfInBounds_toArray, List.set_cons_zero, List.set_cons_succ]
        refine q_val rfl (fun W hW => by go_simp; try rfl) ?_
        simp only [Act.put, List.setIfInBounds_toArray, List.set_cons_zero, List.set_cons_succ]
        refine q_val rfl (fun W hW => by go_simp; try rfl) ?_
        simp only [Act.put, List.setIfInBounds_toArray, List.set_cons_zero, List.set_cons_succ]
        refine q_val rfl (fun W hW => by go_simp; try rfl) ?_
        simp only [Act.put, List.setIfInBounds_toArray, List.set_cons_zero, List.set_cons_succ]
        refine q_val rfl (fun W hW => by go_simp; try rfl) ?_
        simp only [Act.put, List.setIfInBounds_toArray, List.set_cons_zero, List.set_cons_succ]
        refine q_val (v := .int .i64 ((nk : Int) + 2)) rfl (fun W hW => by have h := hwr; go_simp; try rfl) ?_
        simp only [Act.put, List.setIfInBounds_toArray, List.set_cons_zero, List.set_cons_succ]
        refine q_val (v := .slice A9 (nk + 2) c9) rfl (fun W hW => by have h := HSL.out W; go_simp; try rfl) ?_
        simp only [Act.put, List.setIfInBounds_toArray, List.set_cons_zero, List.set_cons_succ]
        refine q_val (v := .string (sk ++ ⟨#[9, 9]⟩)) rfl (fun W hW => by have h := HC9.out W hW; go_simp; try rfl) ?_
        simp only [Act.put, List.setIfInBounds_toArray, List.set_cons_zero, List.set_cons_succ]
        refine q_val rfl (fun W hW => by go_simp; try rfl) ?_
        simp only [Act.put, List.setIfInBounds_toArray, List.set_cons_zero, List.set_cons_succ]
        refine q_val (v := .string sk) rfl (fun W hW => by have h := HCK.out W hW; go_simp; try rfl) ?_
        simp only [Act.put, List.setIfInBounds_toArray, List.set_cons_zero, List.set_cons_succ]
        refine q_val (v := .string (sk ++ ⟨#[9, 9]⟩)) rfl (fun W hW => by (have h := HSK.out; go_simp; try omega)) ?_
        simp only [Act.put, List.setIfInBounds_toArray, List.set_cons_zero, List.set_cons_succ]
        refine q_val (v := .bool true) rfl (fun W hW => by go_simp; try rfl) ?_
        simp only [Act.put, List.setIfInBounds_toArray, List.set_cons_zero, List.set_cons_succ]
        refine q_val rfl (fun W hW => by go_simp; try rfl) ?_
        simp only [Act.put, List.setIfInBounds_toArray, List.set_cons_zero, List.set_cons_succ]
        refine q_val rfl (fun W hW => by go_simp; try rfl) ?_
        simp only [Act.put, List.setIfInBounds_toArray, List.set_cons_zero, List.set_cons_succ]
        refine q_nil ?_
        intro w' hC
        go_wp2_with fail
        go_ret
        exact ⟨rfl, Fr0.trans FW.out hC⟩
      · have hgt : (200 : Int) < (nk : Int) := by omega
        clear hN hn hS hF hlt
        go_wp2_with fail
        go_ret
        exact ⟨rfl, HF.out⟩
namespace MacOf
open Go.ChangeShapes Go.WideShapes Go.ChangeAt
open Go.ChangeMaps (open_string shut_string)

theorem own : ownKnob Try.prog.godebug = none := by kernel_rfl
theorem laidOut : laidOutB Try.prog = true := by kernel_rfl

set_option maxRecDepth 100000 in
theorem lifted (os : Os) (started : os.Started) (H : Type) (enc : TypeId × Value → H) :
    ReturnsInHanded {} Try.checked os 3 .any (Rows.macOfSpec.pre6 enc Try.prog Try.f3 Rows.macOfRow.domain false) (Rows.macOfSpec.post enc Try.prog Try.f3 false true false false) := by
  refine returnsInHanded_of_change (C := Try.checked) own started (by kernel_rfl) Try.func3
    (ChangeSpec.witness6 (enc := enc) (C := Try.checked) false ⟨#[], #[.slice none 0 0, .slice none 0 0], []⟩ 8 (by kernel_rfl) (by kernel_rfl) (by kernel_rfl) (by kernel_rfl)) ?_
  intro W base args ds gs before hval0 hW hcnd _
  have hval : ∀ (j : Nat) t v, Try.f3.params[j]? = some t → args[j]? = some v → Value.okWide Try.prog W .any base t v := hval0
  have hW' := hW
  obtain ⟨p, q, hA0, hV, rfl, hfz, hnd⟩ := hW
  have hA : DataW.TrodAll enc Try.prog W 0 (fun _ => true) true Try.f3.params.toList args.toList ds p := hA0
  rw [Try.params3] at hA hval
  obtain ⟨v0, vs0, d0', ds0, p0, q0, hargs, rfl, rfl, h0, r0⟩ := trodAll_cons hA
  obtain ⟨v1, vs1, d1', ds1, p1, q1, rfl, rfl, rfl, h1, r1⟩ := trodAll_cons r0
  obtain ⟨rfl, rfl, rfl⟩ := trodAll_nil r1
  obtain rfl : args = #[v0, v1] := by cases args; simp_all
  obtain ⟨rfl, rfl⟩ := trodVars_none hV
  have k0 := h0
  have lt0 : ∀ x ∈ p0, x.block < W.heap.size := by obtain ⟨m, hm⟩ := k0; exact DataW.trod_lt m _ _ _ hm
  obtain ⟨A0, n0, c0, rfl⟩ := okWide_slice Try.underlying22 (hval 0 22 v0 rfl rfl)
  obtain ⟨fuel0, hf0⟩ := h0
  obtain ⟨d0, hy0⟩ := arg_bytes Try.underlying22 Try.underlying5 (by kernel_rfl) hf0
  have k1 := h1
  have lt1 : ∀ x ∈ p1, x.block < W.heap.size := by obtain ⟨m, hm⟩ := k1; exact DataW.trod_lt m _ _ _ hm
  obtain ⟨A1, n1, c1, rfl⟩ := okWide_slice Try.underlying23 (hval 1 23 v1 rfl rfl)
  obtain ⟨fuel1, hf1⟩ := h1
  obtain ⟨l1, hy1, hz1⟩ := arg_of bpC (BpIn W) (by decide) bpC_len Try.underlying23 (by kernel_rfl) (fun n cs x h => (fun h => read_bp Try.underlying22 Try.underlying5 (by kernel_rfl) h) h) hf1
  clear hA0 hval0
  refine (lof_any hy0 hy1 hz1).mono fun e W' ⟨he, hfr⟩ => ?_
  have bel : Below W.heap.size W W' := Fr0.below hfr
  subst he
  exact ⟨_, rfl, _, _, _, [], _, [], hW', trodAll_mk1 (shut_bool Try.underlying4 _), (trodAll_cons_mk (Below.trod laidOut (by kernel_rfl) (of_decide_eq_true (by kernel_rfl)) k0 bel lt0) (trodAll_cons_mk (Below.trod laidOut (by kernel_rfl) (of_decide_eq_true (by kernel_rfl)) k1 bel lt1) trodAll_mk0)), rfl, bel.frame _, fun h => by cases h⟩

theorem over : Rows.macOfRow.holds Try.pinned (OpenSpec.ofChange Rows.macOfSpec) :=
  OpenClaim.holds_of_wide 3 Try.f3 rfl rfl rfl rfl rfl rfl rfl ⟨rfl, rfl, rfl, rfl, rfl⟩ rfl rfl rfl rfl rfl (by kernel_rfl) Try.func3 (by kernel_rfl)
    (of_decide_eq_true (by kernel_rfl)) (by unfold Func.isWrapper; first | (rw [if_pos (by decide +kernel)]; kernel_rfl) | (rw [if_neg (by decide +kernel)]; exact ⟨rfl, rfl⟩))
    (fun os started H enc _ => lifted os started H enc)

theorem proved : Rows.MacOfSaid := over
#print axioms proved
end MacOf
end Go.Proofs.Ytjkcbklgddnbdaa
