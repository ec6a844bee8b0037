/- Sum of pieces whose slice was built before; parts of a byte slice. Conditions stand in the statements. -/
import Derived.Test.YtinajkhnfebgcaaShaSum2
import Derived.Test.YtinajkhnfebgcaaSl
namespace Go.Proofs.Ytinajkhnfebgcaa
open Go.RowKit
theorem sumP1 {W : World} {g : Nat} {v1 : Value} {d1 : List UInt8} (h1 : RdB W v1 d1) (hl : d1.length ≤ 900000) (hb : Blk W g #[v1] 27) : Calls Try.prog 14 #[.slice (some ⟨g, 0, none⟩) 1 1] W fun e w' => e = .returned (.agg (byts (shaN d1)).toArray) ∧ Fr0 W w' := by
  have h := sum_any (w := W) (lv := .slice (some ⟨g, 0, none⟩) 1 1) (ds := [d1]) (vs := [v1])
    ⟨rfl, ⟨_, _, rfl, by simp, by unfold maxLen; simp, fun h => by cases h⟩, fun _ => ⟨g, 0, 1, _, _, _, rfl, hb, fun j u hu => by simpa using hu⟩⟩
    (fun i hi => by
      simp at hi
      subst hi
      exact ⟨v1, rfl, h1⟩)
  have h3 := h (by simpa using hl)
  rw [show ([d1] : List (List UInt8)).flatten = d1 from by simp] at h3
  exact h3
theorem sumP3 {W : World} {g : Nat} {v1 v2 v3 : Value} {d1 d2 d3 : List UInt8} (h1 : RdB W v1 d1) (h2 : RdB W v2 d2) (h3 : RdB W v3 d3) (hl : d1.length + d2.length + d3.length ≤ 900000) (hb : Blk W g #[v1, v2, v3] 27) : Calls Try.prog 14 #[.slice (some ⟨g, 0, none⟩) 3 3] W fun e w' => e = .returned (.agg (byts (shaN (d1 ++ (d2 ++ d3)))).toArray) ∧ Fr0 W w' := by
  have h := sum_any (w := W) (lv := .slice (some ⟨g, 0, none⟩) 3 3) (ds := [d1, d2, d3]) (vs := [v1, v2, v3])
    ⟨rfl, ⟨_, _, rfl, by simp, by unfold maxLen; simp, fun h => by cases h⟩, fun _ => ⟨g, 0, 3, _, _, _, rfl, hb, fun j u hu => by simpa using hu⟩⟩
    (fun i hi => by
      simp at hi
      rcases (by omega : i = 0 ∨ i = 1 ∨ i = 2) with rfl | rfl | rfl
      · exact ⟨v1, rfl, h1⟩
      · exact ⟨v2, rfl, h2⟩
      · exact ⟨v3, rfl, h3⟩)
  have h4 := h (by simp; omega)
  rw [show ([d1, d2, d3] : List (List UInt8)).flatten = d1 ++ (d2 ++ d3) from by simp] at h4
  exact h4
theorem u8_size (w : World) : (sizeOf 5).run Try.prog w = .ok 1 w := by
  obtain ⟨i, hi, _, hz1, _⟩ := info_parts infoB
  simp [sizeOf, typeInfo, hi, hz1]
/-- 'v[:h]', of a slice that has room. -/
theorem part_h (w : World) (A : Option Addr) (n c h : Nat) (hh : h ≤ c) : (Instr.slice 27 (.slice A n c) none (some (.int .i64 (h : Int))) none).run Try.prog w = .ok (.slice A h c) w := by
  have ht := Try.underlying27
  have hel : Try.prog.elem 27 = 5 := by simp [Program.elem, ht]
  rw [run_slice_h (w := w) 27 A n c (by rw [hel]; exact ht) .i64 (h : Int) (by omega) (by omega), hel, u8_size]
  show Result.ok (sliced A 0 (h : Int).toNat c 1) w = _
  unfold sliced
  have hA : A.map (·.add (0 * 1)) = A := by cases A <;> simp [Addr.add]
  rw [hA, ite_self, Int.toNat_natCast, Nat.sub_zero, Nat.sub_zero]
/-- 'v[l:h]', its value under a name. -/
theorem part_lh {w : World} {A : Option Addr} {c l h : Nat} {d : List UInt8} (hr : RdB w (.slice A d.length c) d) (hl : l ≤ h) (hh : h ≤ d.length) :
    ∃ A' n' c', (∀ W, (Instr.slice 27 (.slice A d.length c) (some (.int .i64 (l : Int))) (some (.int .i64 (h : Int))) none).run Try.prog W = .ok (.slice A' n' c') W) ∧ RdB w (.slice A' n' c') ((d.take h).drop l) := by
  have ht := Try.underlying27
  have hel : Try.prog.elem 27 = 5 := by simp [Program.elem, ht]
  have hc : d.length ≤ c := by
    obtain ⟨A', c', hv, hm, _⟩ := hr.form
    injection hv with _ _ hc
    omega
  refine ⟨if c = l then A else A.map (·.add l), h - l, c - l, fun W => ?_, ?_⟩
  · rw [run_slice_lh (w := W) 27 A d.length c (by rw [hel]; exact ht) .i64 .i64 (l : Int) (h : Int) (by omega) (by omega) (by omega), hel, u8_size]
    show Result.ok (sliced A (l : Int).toNat (h : Int).toNat c 1) W = _
    unfold sliced
    rw [Int.toNat_natCast, Int.toNat_natCast, Nat.mul_one]
  · have h1 := RdB.take hr hh
    have hlen : (d.take h).length = h := by rw [List.length_take]; omega
    have h2 := RdB.drop (d := d.take h) (k := l) (by rw [hlen]; exact h1) (by omega)
    rw [hlen] at h2
    exact h2
end Go.Proofs.Ytinajkhnfebgcaa
