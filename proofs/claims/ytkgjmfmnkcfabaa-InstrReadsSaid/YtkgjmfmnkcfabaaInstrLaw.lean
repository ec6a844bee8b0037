/- Instructions as bytes: plain lists. Conditions stand in the statements. -/
import Derived.Test.YtkgjmfmnkcfabaaInstr
import Derived.Test.YtkgjmfmnkcfabaaWireRRest
namespace Go.Proofs.Ytkgjmfmnkcfabaa

/-- The bytes of an instruction that may be. -/
def iForm (old new ack trash : Int) (d : List UInt8) : List UInt8 := form old.toNat ++ (form (new - old).toNat ++ (form ack.toNat ++ (form (old - trash).toNat ++ d)))
/-- A number that was read, or none. -/
def numI (n : Nat) : Int := if n ≤ 1099511627776 then (n : Int) else -1
/-- The four reads and the rest: numbers, what is left, the error. -/
def iNums (b : List UInt8) : (Nat × Nat × Nat × Nat) × List UInt8 × Int :=
  let a := rNum b 0
  let m := rNum a.2.1 a.2.2
  let k := rNum m.2.1 m.2.2
  let l := rNum k.2.1 k.2.2
  ((a.1, m.1, k.1, l.1), (rRest l.2.1 l.2.2).1, l.2.2)
/-- May what was read be an instruction? -/
def iGood (b : List UInt8) : Prop := (iNums b).2.2 = 0 ∧ 0 ≤ numI (iNums b).1.2.1 ∧ 0 ≤ numI (iNums b).1.2.2.2 ∧
  may (numI (iNums b).1.1) (numI (iNums b).1.1 + numI (iNums b).1.2.1) (numI (iNums b).1.2.2.1) (numI (iNums b).1.1 - numI (iNums b).1.2.2.2) (iNums b).2.1.length = 0

theorem rNum_cases (d : List UInt8) (e : Int) : ((rNum d e).2.2 = 0 ∧ e = 0 ∧ d = form (rNum d e).1 ++ (rNum d e).2.1 ∧ (rNum d e).1 < 18446744073709551616) ∨ ((rNum d e).2.2 ≠ 0 ∧ (rNum d e).1 = 0) := by
  unfold rNum
  by_cases he : e = 0
  · rw [if_neg (by simpa using he)]
    by_cases h : (rd d).2 = 0
    · rw [if_pos h]; exact .inr ⟨by simp, rfl⟩
    · rw [if_neg h]
      obtain ⟨h1, h2, h3⟩ := rd_once (d := d) (n := (rd d).1) (k := (rd d).2) rfl (by omega)
      refine .inl ⟨rfl, he, ?_, h2⟩
      simp only
      rw [← h3, List.take_append_drop]
  · rw [if_pos he]; exact .inr ⟨he, rfl⟩
theorem rNum_app (n : Nat) (hn : n < 18446744073709551616) (r : List UInt8) : rNum (form n ++ r) 0 = (n, r, 0) := by
  have h : rd (form n ++ r) = (n, (form n).length) := rd_form n hn r
  have := form_pos n
  unfold rNum
  rw [if_neg (by simp), h, if_neg (by simp only; omega), List.drop_left' rfl]

theorem may_zero {old new ack trash : Int} {n : Nat} : may old new ack trash n = 0 ↔ (okn old ∧ okn new ∧ okn ack ∧ okn trash ∧ old ≤ new ∧ trash ≤ old ∧ (new = old → n = 0) ∧ n ≤ 65496) := by
  unfold may
  by_cases h1 : okn old ∧ okn new ∧ okn ack ∧ okn trash
  · rw [if_neg (by simpa using h1)]
    obtain ⟨a, b, c, d⟩ := h1
    by_cases h2 : new < old ∨ trash > old ∨ (new = old ∧ 0 < n)
    · rw [if_pos h2]
      simp only [show ¬ ((2 : Int) = 0) by decide, false_iff]
      rintro ⟨-, -, -, -, h5, h6, h7, -⟩
      rcases h2 with h2 | h2 | h2
      · omega
      · omega
      · have := h7 h2.1; omega
    · rw [if_neg h2]
      by_cases h3 : 65496 < n
      · rw [if_pos h3]; simp only [show ¬ ((3 : Int) = 0) by decide, false_iff]; rintro ⟨-, -, -, -, -, -, -, h8⟩; omega
      · rw [if_neg h3]
        simp only [true_iff]
        exact ⟨a, b, c, d, by omega, by omega, fun h => by omega, by omega⟩
  · rw [if_pos h1]
    simp only [show ¬ ((2 : Int) = 0) by decide, false_iff]
    rintro ⟨a, b, c, d, -⟩
    exact h1 ⟨a, b, c, d⟩
theorem may_vals (old new ack trash : Int) (n : Nat) : may old new ack trash n = 0 ∨ may old new ack trash n = 2 ∨ may old new ack trash n = 3 := by
  unfold may; split
  · exact .inr (.inl rfl)
  · split
    · exact .inr (.inl rfl)
    · split
      · exact .inr (.inr rfl)
      · exact .inl rfl

/-- What was formed is read again. -/
theorem iNums_form {old new ack trash : Int} {d : List UInt8} (h : may old new ack trash d.length = 0) :
    iNums (iForm old new ack trash d) = ((old.toNat, (new - old).toNat, ack.toNat, (old - trash).toNat), d, 0) := by
  obtain ⟨h1, h2, h3, h4, h5, h6, -, -⟩ := may_zero.1 h
  unfold okn at h1 h2 h3 h4
  unfold iNums iForm
  rw [rNum_app _ (by omega)]
  simp only
  rw [rNum_app _ (by omega)]
  simp only
  rw [rNum_app _ (by omega)]
  simp only
  rw [rNum_app _ (by omega)]
  simp [rRest]
theorem numI_of {n : Nat} (h : n ≤ 1099511627776) : numI n = n := by unfold numI; rw [if_pos h]
/-- The numbers that come out are the ones that went in. -/
theorem iGood_form {old new ack trash : Int} {d : List UInt8} (h : may old new ack trash d.length = 0) : iGood (iForm old new ack trash d) ∧
    numI (iNums (iForm old new ack trash d)).1.1 = old ∧ numI (iNums (iForm old new ack trash d)).1.1 + numI (iNums (iForm old new ack trash d)).1.2.1 = new ∧ numI (iNums (iForm old new ack trash d)).1.2.2.1 = ack ∧
    numI (iNums (iForm old new ack trash d)).1.1 - numI (iNums (iForm old new ack trash d)).1.2.2.2 = trash ∧ (iNums (iForm old new ack trash d)).2.1 = d := by
  have hh := h
  obtain ⟨h1, h2, h3, h4, h5, h6, -, -⟩ := may_zero.1 h
  unfold okn at h1 h2 h3 h4
  have e0 : numI old.toNat = old := by rw [numI_of (by omega)]; omega
  have e1 : numI (new - old).toNat = new - old := by rw [numI_of (by omega)]; omega
  have e2 : numI ack.toNat = ack := by rw [numI_of (by omega)]; omega
  have e3 : numI (old - trash).toNat = old - trash := by rw [numI_of (by omega)]; omega
  unfold iGood
  rw [iNums_form h]
  simp only
  rw [e0, e1, e2, e3, show old + (new - old) = new by omega, show old - (old - trash) = trash by omega]
  refine ⟨⟨?_, by omega, by omega, hh⟩, ?_, ?_, ?_, ?_, ?_⟩ <;> first | trivial | rfl
/-- What is read, formed, is the bytes that were read. -/
theorem iForm_read {b : List UInt8} (h : iGood b) : iForm (numI (iNums b).1.1) (numI (iNums b).1.1 + numI (iNums b).1.2.1) (numI (iNums b).1.2.2.1) (numI (iNums b).1.1 - numI (iNums b).1.2.2.2) (iNums b).2.1 = b := by
  obtain ⟨h1, h2, h3, h4⟩ := h
  obtain ⟨k1, k2, k3, k4, -⟩ := may_zero.1 h4
  unfold okn at k1 k2 k3 k4
  have nn : ∀ n : Nat, 0 ≤ numI n → numI n = n := by intro n hn; unfold numI at hn ⊢; split at hn <;> simp_all
  rw [nn _ k1.1] at *
  rw [nn _ h2] at *
  rw [nn _ k3.1] at *
  rw [nn _ h3] at *
  unfold iNums at *
  simp only at *
  rcases rNum_cases (rNum (rNum (rNum b 0).2.1 (rNum b 0).2.2).2.1 (rNum (rNum b 0).2.1 (rNum b 0).2.2).2.2).2.1 (rNum (rNum (rNum b 0).2.1 (rNum b 0).2.2).2.1 (rNum (rNum b 0).2.1 (rNum b 0).2.2).2.2).2.2 with ⟨_, g3, f3, _⟩ | ⟨g, _⟩
  · rcases rNum_cases (rNum (rNum b 0).2.1 (rNum b 0).2.2).2.1 (rNum (rNum b 0).2.1 (rNum b 0).2.2).2.2 with ⟨_, g2, f2, _⟩ | ⟨g, _⟩
    · rcases rNum_cases (rNum b 0).2.1 (rNum b 0).2.2 with ⟨_, g1, f1, _⟩ | ⟨g, _⟩
      · rcases rNum_cases b 0 with ⟨_, _, f0, _⟩ | ⟨g, _⟩
        · rw [h1]
          unfold iForm rRest
          rw [if_neg (by simp)]
          simp only [Int.toNat_natCast]
          rw [show ((rNum b 0).1 + ((rNum (rNum b 0).2.1 (rNum b 0).2.2).1 : Int) - ((rNum b 0).1 : Int)).toNat = (rNum (rNum b 0).2.1 (rNum b 0).2.2).1 by omega]
          rw [show ∀ x y : Nat, ((x : Int) - ((x : Int) - (y : Int))).toNat = y from fun x y => by omega]
          rw [← f3, ← f2, ← f1, ← f0]
        · exact absurd g1 g
      · exact absurd g2 g
    · exact absurd g3 g
  · exact absurd h1 g
theorem iForm_len {old new ack trash : Int} {d : List UInt8} (h : may old new ack trash d.length = 0) : (iForm old new ack trash d).length ≤ d.length + 40 := by
  obtain ⟨h1, h2, h3, h4, h5, h6, -, -⟩ := may_zero.1 h
  unfold okn at h1 h2 h3 h4
  unfold iForm
  have a := form_len_le (n := old.toNat) (by omega)
  have b := form_len_le (n := (new - old).toNat) (by omega)
  have c := form_len_le (n := ack.toNat) (by omega)
  have e := form_len_le (n := (old - trash).toNat) (by omega)
  simp only [List.length_append]
  omega
end Go.Proofs.Ytkgjmfmnkcfabaa
