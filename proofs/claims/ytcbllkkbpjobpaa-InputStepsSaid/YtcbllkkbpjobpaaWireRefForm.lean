/- The reference's form. Conditions stand in the statements. -/
import Derived.Test.YtcbllkkbpjobpaaWireOwn
import Derived.Test.YtcbllkkbpjobpaaWireRefN
import Derived.Deep.RegionHeldLaw
import Derived.Deep.DeepCutAuto
namespace Go.Proofs.Ytcbllkkbpjobpaa
open Go.RowKit

/-- Bytes as groups of seven bits. -/
def val7 (l : List UInt8) : Nat := l.foldl (fun n x => n * 128 + x.toNat % 128) 0
theorem val7_snoc (l : List UInt8) (x : UInt8) : val7 (l ++ [x]) = val7 l * 128 + x.toNat % 128 := by simp [val7]
theorem hi_facts (m : Nat) : (∀ x ∈ hiW m, 128 ≤ x.toNat) ∧ val7 (hiW m) = m := by
  induction m using Nat.strongRecOn with
  | _ m ih =>
    rcases Nat.eq_zero_or_pos m with h | h
    · subst h; rw [hi_zero]; simp [val7]
    · obtain ⟨h1, h2⟩ := ih (m / 128) (by omega)
      rw [hi_pos h]
      refine ⟨fun x hx => ?_, ?_⟩
      · rw [List.mem_append] at hx
        rcases hx with hx | hx
        · exact h1 x hx
        · rw [List.mem_singleton] at hx; subst hx; rw [u8_of _ (by omega)]; omega
      · rw [val7_snoc, h2, u8_of _ (by omega)]; omega
theorem val7_form (n : Nat) : val7 (form n) = n := by
  rw [form, val7_snoc, (hi_facts _).2, u8_of _ (by omega)]; omega

theorem rd_zero' {d : List UInt8} (h : (rd d).2 = 0) : rd d = (0, 0) := by
  have e : rdNum d 0 0 = ((rd d).1, 0) := Prod.ext rfl h
  exact Prod.ext (rd_zero e) h
/-- Where the first byte below 128 stands at i, what is read is decided there. -/
theorem rd_at {d : List UInt8} {i : Nat} (hi1 : i < d.length) (hge : ∀ j (hj : j < d.length), j < i → 128 ≤ (d[j]).toNat) (hlt : (d[i]).toNat < 128) :
    ((form (val7 (d.take (i + 1)) % 18446744073709551616) = d.take (i + 1)) → rd d = (val7 (d.take (i + 1)) % 18446744073709551616, i + 1)) ∧
    ((form (val7 (d.take (i + 1)) % 18446744073709551616) ≠ d.take (i + 1)) → rd d = (0, 0)) := by
  refine ⟨fun h => ?_, fun h => ?_⟩
  · have e : d = form (val7 (d.take (i + 1)) % 18446744073709551616) ++ d.drop (i + 1) := by rw [h, List.take_append_drop]
    have := rd_form (val7 (d.take (i + 1)) % 18446744073709551616) (Nat.mod_lt _ (by decide)) (d.drop (i + 1))
    rw [← e] at this
    have hl : (form (val7 (d.take (i + 1)) % 18446744073709551616)).length = i + 1 := by rw [h, List.length_take]; omega
    rw [hl] at this
    exact this
  · rcases Nat.eq_zero_or_pos (rd d).2 with h0 | h0
    · exact rd_zero' h0
    · exfalso
      obtain ⟨k1, k2, k3⟩ := rd_once (d := d) (n := (rd d).1) (k := (rd d).2) rfl h0
      obtain ⟨k, hk⟩ : ∃ k, k = (rd d).2 := ⟨_, rfl⟩
      obtain ⟨n, hnn⟩ : ∃ n, n = (rd d).1 := ⟨_, rfl⟩
      rw [← hk] at k1 k3 h0
      rw [← hnn] at k2 k3
      have kl : (form n).length = k := by rw [← k3, List.length_take]; omega
      have khl : (hiW (n / 128)).length = k - 1 := by rw [form, List.length_append] at kl; simp at kl; omega
      have hat : ∀ j (hj : j < d.length) (hjk : j < k), d[j] = (form n)[j]'(by omega) := by
        intro j hj hjk
        have : (d.take k)[j]'(by rw [List.length_take]; omega) = (form n)[j]'(by omega) := by simp only [k3]
        rw [← this, List.getElem_take]
      have hik : i = k - 1 := by
        rcases Nat.lt_trichotomy i (k - 1) with hl | hl | hl
        · exfalso
          have h1 := hat i hi1 (by omega)
          have h2 : (form n)[i]'(by omega) = (hiW (n / 128))[i]'(by omega) := by simp only [form]; rw [List.getElem_append_left]
          have h3 := (hi_facts (n / 128)).1 _ (List.getElem_mem (show i < (hiW (n / 128)).length by omega))
          rw [← h2, ← h1] at h3
          omega
        · exact hl
        · exfalso
          have h1 := hat (k - 1) (by omega) (by omega)
          have h2 : (form n)[k - 1]'(by omega) = UInt8.ofNat (n % 128) := by simp only [form]; rw [List.getElem_append_right (by omega)]; simp
          have h3 := hge (k - 1) (by omega) hl
          rw [h1, h2, u8_of _ (by omega)] at h3
          omega
      apply h
      rw [hik, show k - 1 + 1 = k by omega, k3, val7_form, Nat.mod_eq_of_lt k2]
theorem rd_none {d : List UInt8} {i : Nat} (hi10 : i = 10 ∨ i = d.length) (hge : ∀ j (hj : j < d.length), j < i → 128 ≤ (d[j]).toNat) : rd d = (0, 0) := by
  rcases Nat.eq_zero_or_pos (rd d).2 with h0 | h0
  · exact rd_zero' h0
  · exfalso
    obtain ⟨k1, k2, k3⟩ := rd_once (d := d) (n := (rd d).1) (k := (rd d).2) rfl h0
    obtain ⟨k, hk⟩ : ∃ k, k = (rd d).2 := ⟨_, rfl⟩
    obtain ⟨n, hnn⟩ : ∃ n, n = (rd d).1 := ⟨_, rfl⟩
    rw [← hk] at k1 k3 h0
    rw [← hnn] at k2 k3
    have kl : (form n).length = k := by rw [← k3, List.length_take]; omega
    have k10 := form_len_le k2
    have khl : (hiW (n / 128)).length = k - 1 := by rw [form, List.length_append] at kl; simp at kl; omega
    have h1 : d[k - 1]'(by omega) = (form n)[k - 1]'(by omega) := by
      have : (d.take k)[k - 1]'(by rw [List.length_take]; omega) = (form n)[k - 1]'(by omega) := by simp only [k3]
      rw [← this, List.getElem_take]
    have h2 : (form n)[k - 1]'(by omega) = UInt8.ofNat (n % 128) := by simp only [form]; rw [List.getElem_append_right (by omega)]; simp
    have h3 := hge (k - 1) (by omega) (by omega)
    rw [h1, h2, u8_of _ (by omega)] at h3
    omega

set_option maxHeartbeats 2000000 in
set_option maxRecDepth 100000 in
theorem refForm_any {v : Value} {d : List UInt8} {w : World} (h : RdB w v d) (hn : d.length ≤ 100000000) :
    Calls Try.prog 57 #[v] w fun e w' => e = .returned (.tuple #[.int .u64 ((rd d).1 : Nat), .int .i64 ((rd d).2 : Nat)]) ∧ Fr0 w w' := by
  obtain ⟨A, c, rfl, hnc, hcm, hnone⟩ := h.form
  go_enter Try.func57, Try.ntmps57
  go_wp2_with fail
  go_loopw [4, 5] (fun v4 v5 wr => ∃ (i : Nat), v4 = .int .u64 ((val7 (d.take i) % 18446744073709551616 : Nat) : Int) ∧ v5 = .int .i64 (i : Int) ∧ i ≤ d.length ∧ i ≤ 10 ∧ Fr0 w wr ∧ Hid (∀ j (hj : j < d.length), j < i → 128 ≤ (d[j]).toNat)) (fun _ v5 _ => d.length - (intOf v5).toNat)
  case atStart => exact ⟨0, rfl, rfl, by omega, by omega, Fr0.refl _, fun j hj h => by omega⟩
  case round =>
    obtain ⟨i, rfl, rfl, hi1, hi2, hf, hge⟩ := hrel
    obtain ⟨n, hnn⟩ : ∃ n, n = val7 (d.take i) % 18446744073709551616 := ⟨_, rfl⟩
    have hn64 : n < 18446744073709551616 := by rw [hnn]; exact Nat.mod_lt _ (by decide)
    rw [← hnn]
    have HN := Lib.hid hnn
    clear hnn
    by_cases hlt : i < d.length
    · have a1 : decide ((i : Int) < (d.length : Int)) = true := by simp; omega
      by_cases h10 : i < 10
      · have a2 : decide ((i : Int) < 10) = true := by simp; omega
        obtain ⟨g, off, c', hv, hic, hg, hc⟩ := (h.fr0 hf).cell hlt
        injection hv with hA _ hcc
        subst hA hcc
        obtain ⟨y, hy⟩ : ∃ y, y = (d[i]).toNat := ⟨_, rfl⟩
        have hxl : y < 256 := by rw [hy]; exact (d[i]).toNat_lt
        rw [← hy] at hc
        have ei : wr.cell? ⟨g, off + i, none⟩ = some (.int .u8 (y : Int)) := hc
        have HY := Lib.hid hy
        have H := Lib.hid h
        obtain ⟨m, hm⟩ : ∃ m, m = val7 (d.take (i + 1)) % 18446744073709551616 := ⟨_, rfl⟩
        have HM := Lib.hid hm
        have hm64 : m < 18446744073709551616 := by rw [hm]; exact Nat.mod_lt _ (by decide)
        have hmn : ((n : Int) * 128 % 18446744073709551616 + (y : Int) % 128) % 18446744073709551616 = (m : Int) := by
          rw [hm, List.take_succ_eq_append_getElem hlt, val7_snoc, ← hy, HN.out]
          omega
        have ew : IntKind.u64.wrap ((n : Int) * 128) = (n : Int) * 128 % 18446744073709551616 := rfl
        have ey : IntKind.u64.wrap ((y : Int) % 128) = (y : Int) % 128 := by show (y : Int) % 128 % 18446744073709551616 = _; omega
        have es : IntKind.u64.wrap ((n : Int) * 128 % 18446744073709551616 + (y : Int) % 128) = (m : Int) := hmn
        have hfull := Lib.hid (show m = val7 (d.take (i + 1)) % 18446744073709551616 from hm)
        clear hm hmn hc hy
        by_cases hb : y < 128
        · have a3 : decide ((y : Int) < 128) = true := by simp; omega
          have hrd := rd_at hlt hge (by rw [← HY.out]; exact hb)
          rw [← hfull.out] at hrd
          have w1 : IntKind.i64.wrap ((i : Int) + 1) = (i : Int) + 1 := IntWalk.i64_in _ (by omega)
          have hi1' : i + 1 ≤ d.length := by omega
          have hsl := slice_to (P := Try.prog) (T := 26) (e := 5) Try.underlying26 (fun _ => by kernel_rfl) (k := i + 1) (A := some ⟨g, off, none⟩) (n := d.length) (c := c) (Nat.le_trans hi1' hnc)
          rw [show (((i + 1 : Nat)) : Int) = (i : Int) + 1 by omega] at hsl
          have HC := Lib.hid (fun (w' : World) (hw : Fr0 w w') => conv_ownN (n := i + 1) (by rw [List.length_take]; omega) (RdB.take (h.fr0 hw) hi1'))
          obtain ⟨X, hX⟩ : ∃ X, X = d.take (i + 1) := ⟨_, rfl⟩
          rw [← hX] at HC hrd
          have HRN := Lib.hid (refNum_any m hm64)
          obtain ⟨fm, hfm⟩ : ∃ fm, fm = form m := ⟨_, rfl⟩
          rw [← hfm] at HRN hrd
          have t1 : (str fm).toList = fm := by rw [ByteArray.toList_eq]; exact str_toList fm
          have t2 : (str X).toList = X := by rw [ByteArray.toList_eq]; exact str_toList X
          by_cases hq : fm = X
          · have a4 : (fm == X) = true := by simpa using hq
            have HR := Lib.hid (hrd.1 hq)
            clear hX hfm hrd hq h
            go_wp2_with fail
            have F := Lib.hid (hf.drew)
            clear hf
            go_cut [38] (fun s38 wx => s38 = .bool false ∧ Fr0 w wx)
            case first =>
              go_region_held_law (fun w' => (convert 26 9 (.slice (some ⟨g, off, none⟩) (i + 1) c)).run Try.prog w' = .ok (.string (str X)) w') (first | exact HC.out _ F.out) (first
                | (go_at_call 51; refine (HRN.out _).mono ?_; rintro e w5 ⟨v, rfl, hown, hf⟩; obtain ⟨A9, c9, rfl, -, hct⟩ := own_text hown; replace F := Lib.hid ((F.out).trans hf); clear hf hown))
              all_goals (go_wp2_with fail; go_meet; exact ⟨rfl, F.out⟩)
            case rest =>
              obtain ⟨rfl, hf⟩ := hcut
              have F2 := Lib.hid hf
              clear hf
              go_wp2_with fail
              go_ret2
              rw [HR.out]
              exact ⟨by simp, F2.out⟩
          · have a4 : (fm == X) = false := by simpa using hq
            have HR := Lib.hid (hrd.2 hq)
            clear hX hfm hrd hq h
            go_wp2_with fail
            have F := Lib.hid (hf.drew)
            clear hf
            go_cut [38] (fun s38 wx => s38 = .bool true ∧ Fr0 w wx)
            case first =>
              go_region_held_law (fun w' => (convert 26 9 (.slice (some ⟨g, off, none⟩) (i + 1) c)).run Try.prog w' = .ok (.string (str X)) w') (first | exact HC.out _ F.out) (first
                | (go_at_call 51; refine (HRN.out _).mono ?_; rintro e w5 ⟨v, rfl, hown, hf⟩; obtain ⟨A9, c9, rfl, -, hct⟩ := own_text hown; replace F := Lib.hid ((F.out).trans hf); clear hf hown))
              all_goals (go_wp2_with fail; go_meet; exact ⟨rfl, F.out⟩)
            case rest =>
              obtain ⟨rfl, hf⟩ := hcut
              have F2 := Lib.hid hf
              clear hf
              go_wp2_with fail
              go_ret2
              rw [HR.out]
              exact ⟨rfl, F2.out⟩
        · have a3 : decide ((y : Int) < 128) = false := by simp; omega
          have hge2 : Hid (∀ j (hj : j < d.length), j < i + 1 → 128 ≤ (d[j]).toNat) := by
            intro j hj hji
            rcases Nat.lt_or_ge j i with h1 | h1
            · exact hge.out j hj h1
            · have : j = i := by omega
              subst this
              rw [← HY.out]; omega
          clear h
          go_wp2_with fail
          go_roundw
          case rel => exact ⟨i + 1, by rw [← hfull.out], by go_num, by omega, by omega, hf, hge2⟩
          case measure => simp [intOf]; omega
      · have a2 : decide ((i : Int) < 10) = false := by simp; omega
        have HR := Lib.hid (rd_none (d := d) (i := i) (.inl (by omega)) hge)
        clear h
        go_wp2_with fail
        go_ret2
        rw [HR.out]
        exact ⟨rfl, hf⟩
    · have a1 : decide ((i : Int) < (d.length : Int)) = false := by simp; omega
      have HR := Lib.hid (rd_none (d := d) (i := i) (.inr (by omega)) hge)
      clear h
      go_wp2_with fail
      go_ret2
      rw [HR.out]
      exact ⟨rfl, hf⟩
end Go.Proofs.Ytcbllkkbpjobpaa
