/- Deeds out of bytes: plain. Conditions stand in the statements. -/
import Derived.Test.YtcbllkkbpjobpaaInDiff
import Derived.Test.YtcbllkkbpjobpaaWireRText2
set_option linter.unusedVariables false
namespace Go.Proofs.Ytcbllkkbpjobpaa
open Go.RowKit

def winN (n : Nat) : Int := if n ≤ 1000 then n else 0
/-- What is read of one deed: it, what is left, the error. -/
def rawD (d : List UInt8) : Dd × List UInt8 × Int :=
  if (rNum d 0).1 = 1 then (⟨1, (rText (rNum d 0).2.1 (rNum d 0).2.2 16).1, 0, 0⟩, (rText (rNum d 0).2.1 (rNum d 0).2.2 16).2.1, (rText (rNum d 0).2.1 (rNum d 0).2.2 16).2.2)
  else if (rNum d 0).1 = 2 then
    (⟨2, [], winN (rNum (rNum d 0).2.1 (rNum d 0).2.2).1, winN (rNum (rNum (rNum d 0).2.1 (rNum d 0).2.2).2.1 (rNum (rNum d 0).2.1 (rNum d 0).2.2).2.2).1⟩, (rNum (rNum (rNum d 0).2.1 (rNum d 0).2.2).2.1 (rNum (rNum d 0).2.1 (rNum d 0).2.2).2.2).2.1, (rNum (rNum (rNum d 0).2.1 (rNum d 0).2.2).2.1 (rNum (rNum d 0).2.1 (rNum d 0).2.2).2.2).2.2)
  else (⟨if (rNum d 0).1 ≤ 4 then (rNum d 0).1 else 0, [], 0, 0⟩, (rNum d 0).2.1, (rNum d 0).2.2)
def rdDeed (d : List UInt8) : Option (Dd × List UInt8) := if (rawD d).2.2 = 0 ∧ mayD (rawD d).1 = true then some ((rawD d).1, (rawD d).2.1) else none
def dReadF : Nat → List UInt8 → Option (List Dd)
  | 0, _ => some []
  | f + 1, d => if d = [] then some [] else match rdDeed d with | none => none | some (x, r) => (dReadF f r).map (x :: ·)
def dRead (d : List UInt8) : Option (List Dd) := dReadF d.length d
theorem rNum_le (d : List UInt8) (e : Int) : (rNum d e).2.1.length ≤ d.length ∧ ((rNum d e).2.2 = 0 → e = 0 ∧ (rNum d e).2.1.length < d.length) ∧ (e ≠ 0 → (rNum d e).2.2 = e) ∧ ((rNum d e).2.2 ≠ 0 → (rNum d e).1 = 0) := by
  have hb := (rdNum_lt d 0 0).1
  unfold rNum
  split
  · rename_i h; exact ⟨Nat.le_refl _, fun h2 => absurd h2 h, fun _ => rfl, fun _ => rfl⟩
  · rename_i h
    split
    · exact ⟨Nat.le_refl _, fun h => by simp at h, fun h2 => absurd h2 (by omega), fun _ => rfl⟩
    · rename_i h2
      have hr : (rd d).2 = (rdNum d 0 0).2 := rfl
      refine ⟨by simp, fun _ => ⟨by omega, by simp; omega⟩, fun h2 => absurd h2 (by omega), fun h => absurd rfl h⟩
theorem rText_le (d : List UInt8) (e : Int) : (rText d e 16).2.1.length ≤ d.length ∧ ((rText d e 16).2.2 = 0 → e = 0) ∧ (rText d e 16).1.length ≤ d.length := by
  unfold rText
  split
  · rename_i h; exact ⟨Nat.le_refl _, fun h2 => absurd h2 h, by simp⟩
  · rename_i h
    split
    · rename_i h2; exact ⟨Nat.le_refl _, fun h3 => absurd h3 h2, by simp⟩
    · exact ⟨by simp, fun _ => by omega, by simp; omega⟩
theorem rawD_le (d : List UInt8) : (rawD d).2.1.length ≤ d.length ∧ ((rawD d).2.2 = 0 → (rawD d).2.1.length < d.length) ∧ (rawD d).1.t.length ≤ d.length := by
  have h1 := rNum_le d 0
  unfold rawD
  split
  · have h2 := rText_le (rNum d 0).2.1 (rNum d 0).2.2
    refine ⟨by show (rText _ _ _).2.1.length ≤ _; omega, fun h => ?_, by show (rText _ _ _).1.length ≤ _; omega⟩
    have := (h1.2.1 (h2.2.1 h)).2
    show (rText _ _ _).2.1.length < _
    omega
  · split
    · have h2 := rNum_le (rNum d 0).2.1 (rNum d 0).2.2
      have h3 := rNum_le (rNum (rNum d 0).2.1 (rNum d 0).2.2).2.1 (rNum (rNum d 0).2.1 (rNum d 0).2.2).2.2
      refine ⟨by show (rNum _ _).2.1.length ≤ _; omega, fun h => ?_, by simp⟩
      have := (h3.2.1 h).1
      have := (h2.2.1 this).1
      have := (h1.2.1 this).2
      show (rNum _ _).2.1.length < _
      omega
    · exact ⟨h1.1, fun h => (h1.2.1 h).2, by simp⟩
theorem dReadF_none {f : Nat} {d : List UInt8} (h0 : d ≠ []) (hf : d.length ≤ f) (h : rdDeed d = none) : dReadF f d = none := by
  cases f with
  | zero => exact absurd (List.eq_nil_of_length_eq_zero (by omega)) h0
  | succ f => rw [dReadF, if_neg h0, h]
theorem dReadF_some {f : Nat} {d r : List UInt8} {x : Dd} (h0 : d ≠ []) (hf : d.length ≤ f) (h : rdDeed d = some (x, r)) : ∃ f', f = f' + 1 ∧ dReadF f d = (dReadF f' r).map (x :: ·) := by
  cases f with
  | zero => exact absurd (List.eq_nil_of_length_eq_zero (by omega)) h0
  | succ f => exact ⟨f, rfl, by rw [dReadF, if_neg h0, h]⟩
theorem dReadF_nil (f : Nat) : dReadF f [] = some [] := by cases f <;> rfl
theorem rdDeed_some {d : List UInt8} (h1 : (rawD d).2.2 = 0) (h2 : mayD (rawD d).1 = true) : rdDeed d = some ((rawD d).1, (rawD d).2.1) := by unfold rdDeed; rw [if_pos ⟨h1, h2⟩]
theorem rdDeed_none {d : List UInt8} (h : (rawD d).2.2 ≠ 0 ∨ mayD (rawD d).1 = false) : rdDeed d = none := by
  unfold rdDeed
  rw [if_neg]
  rintro ⟨h1, h2⟩
  rcases h with h | h
  · exact h h1
  · rw [h] at h2; cases h2
/-- The state of a reading: what came, what is left. -/
structure Reading (D acc' : List UInt8) (acc : List Dd) : Prop where
  eq : ∃ f, acc'.length ≤ f ∧ dRead D = (dReadF f acc').map (acc ++ ·)
  le : acc.length + acc'.length ≤ D.length
  may : ∀ x ∈ acc, mayD x = true
theorem Reading.start (D : List UInt8) : Reading D D [] := ⟨⟨D.length, Nat.le_refl _, by simp [dRead]⟩, by simp, fun x hx => by cases hx⟩
theorem Reading.done {D : List UInt8} {acc : List Dd} (h : Reading D [] acc) : dRead D = some acc := by
  obtain ⟨f, -, h⟩ := h.eq
  rw [h, dReadF_nil]; simp
theorem Reading.bad {D d : List UInt8} {acc : List Dd} (h : Reading D d acc) (h0 : d ≠ []) (hb : (rawD d).2.2 ≠ 0 ∨ mayD (rawD d).1 = false) : dRead D = none := by
  obtain ⟨f, hf, h⟩ := h.eq
  rw [h, dReadF_none h0 hf (rdDeed_none hb)]; rfl
theorem Reading.more {D d : List UInt8} {acc : List Dd} (h : Reading D d acc) (h0 : d ≠ []) (h1 : (rawD d).2.2 = 0) (h2 : mayD (rawD d).1 = true) : Reading D (rawD d).2.1 (acc ++ [(rawD d).1]) := by
  obtain ⟨f, hf, he⟩ := h.eq
  obtain ⟨f', hf', h3⟩ := dReadF_some h0 hf (rdDeed_some h1 h2)
  have hlt := (rawD_le d).2.1 h1
  refine ⟨⟨f', by omega, ?_⟩, ?_, fun x hx => ?_⟩
  · rw [he, h3, Option.map_map]
    congr 1
    funext l
    simp
  · have := h.le; rw [List.length_append]; simp; omega
  · rcases List.mem_append.1 hx with hx | hx
    · exact h.may x hx
    · rw [List.mem_singleton] at hx; rw [hx]; exact h2
/-- A stream behind deeds that came: base, deeds, error. -/
def applyP (b : Int) (l : List Dd) (D : List UInt8) : Int × List Dd × Int :=
  if mayS b l = true then (match dRead D with | none => (0, [], 4) | some l' => if mayS (cntS b l) l' = true then (cntS b l, l', 0) else (0, [], 5)) else (0, [], 2)
end Go.Proofs.Ytcbllkkbpjobpaa
