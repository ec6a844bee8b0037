/- A key's rounds, byte by byte. No condition but what stands in the statements. -/
import Derived.Test.YtpmindbipclphaaAesLaw
import Derived.Test.YtpmindbipclphaaAesArr
namespace Go.Proofs.Ytpmindbipclphaa

theorem ksL_at (key : List UInt8) {p : Nat} (h : p < 176) : (ksL key).getD p 0 = kB key p (kS key p) := by
  obtain ⟨d, hd⟩ : ∃ d, 176 = p + 1 + d := ⟨176 - (p + 1), by omega⟩
  have := kS_at key p d
  rw [← hd] at this
  exact this
theorem ksL_low (key : List UInt8) {p j : Nat} (h : p ≤ 176) (hj : j < p) : (kS key p).getD j 0 = (ksL key).getD j 0 := kS_low key hj (by omega)
/-- The four bytes that a round's first column takes in. -/
def hdL (key : List UInt8) (i : Nat) : List UInt8 :=
  [swp ((ksL key).getD (16 * (i - 1) + 13) 0) ^^^ pwU (i - 1), swp ((ksL key).getD (16 * (i - 1) + 14) 0), swp ((ksL key).getD (16 * (i - 1) + 15) 0), swp ((ksL key).getD (16 * (i - 1) + 12) 0)]
theorem ksL_head (key : List UInt8) {i k : Nat} (h1 : 1 ≤ i) (hi : i < 11) (hk : k < 4) : (ksL key).getD (16 * i + k) 0 = (ksL key).getD (16 * (i - 1) + k) 0 ^^^ (hdL key i).getD k 0 := by
  rw [ksL_at key (by omega), kB, if_neg (by omega), if_pos (by omega), ksL_low key (by omega) (by omega), ksL_low key (by omega) (by omega)]
  have e1 : 16 * i + k - 16 = 16 * (i - 1) + k := by omega
  have e2 : (16 * i + k) / 16 = i := by omega
  rw [e1, e2]
  rcases (by omega : k = 0 ∨ k = 1 ∨ k = 2 ∨ k = 3) with rfl | rfl | rfl | rfl
  · rw [if_pos (by omega), show i * 16 - 4 + (16 * i + 0 + 1) % 4 = 16 * (i - 1) + 13 by omega]; rfl
  · rw [if_neg (by omega), show i * 16 - 4 + (16 * i + 1 + 1) % 4 = 16 * (i - 1) + 14 by omega]; simp [hdL]
  · rw [if_neg (by omega), show i * 16 - 4 + (16 * i + 2 + 1) % 4 = 16 * (i - 1) + 15 by omega]; simp [hdL]
  · rw [if_neg (by omega), show i * 16 - 4 + (16 * i + 3 + 1) % 4 = 16 * (i - 1) + 12 by omega]; simp [hdL]
theorem ksL_rest (key : List UInt8) {i k : Nat} (h1 : 1 ≤ i) (hi : i < 11) (hk : 4 ≤ k) (hk2 : k < 16) : (ksL key).getD (16 * i + k) 0 = (ksL key).getD (16 * (i - 1) + k) 0 ^^^ (ksL key).getD (16 * i + k - 4) 0 := by
  rw [ksL_at key (by omega), kB, if_neg (by omega), if_neg (by omega), ksL_low key (by omega) (by omega), ksL_low key (by omega) (by omega), show 16 * i + k - 16 = 16 * (i - 1) + k by omega]
theorem ksL_take {key : List UInt8} (h : key.length = 16) : (ksL key).take 16 = key := by
  apply List.ext_getElem (by rw [List.length_take, ksL_len]; omega)
  intro i h1 h2
  have hi : i < 16 := by omega
  have e := ksL_at key (p := i) (by omega)
  rw [kB, if_pos hi] at e
  rw [List.getElem_take]
  simpa [List.getD, ksL_len, hi, h2, show i < 176 by omega] using e
theorem fill_key {key : List UInt8} (h : key.length = 16) : key ++ List.replicate (176 - key.length) 0 = fillU (ksL key) 176 16 := by
  unfold fillU
  rw [ksL_take h, h]
theorem rkL_len {ks : List UInt8} (h : ks.length = 176) {i : Nat} (hi : i < 11) : (rkL ks i).length = 16 := by
  unfold rkL; rw [List.length_take, List.length_drop]; omega
theorem rkL_at {ks : List UInt8} {i k : Nat} (hk : k < 16) : (rkL ks i).getD k 0 = ks.getD (16 * i + k) 0 := by
  unfold rkL
  rw [List.getD, List.getD, List.getElem?_take, if_pos hk, List.getElem?_drop]
theorem fill_row {ks : List UInt8} (h : ks.length = 176) {i p : Nat} (hi : 16 * i + 16 ≤ p) (hp : p ≤ 176) : ((fillU ks 176 p).drop (16 * i)).take 16 = rkL ks i := by
  apply List.ext_getElem (by rw [List.length_take, List.length_drop, fillU_len h hp, rkL_len h (by omega)]; omega)
  intro k h1 h2
  have hk : k < 16 := by rw [rkL_len h (by omega)] at h2; exact h2
  have e1 := rkL_at (ks := ks) (i := i) hk
  have e2 := fillU_low h hp (show 16 * i + k < p by omega)
  have hl := fillU_len h hp
  simp only [List.getElem_take, List.getElem_drop]
  have e3 : (fillU ks 176 p)[16 * i + k]'(by omega) = (fillU ks 176 p).getD (16 * i + k) 0 := by simp [List.getD, hl, show 16 * i + k < 176 by omega]
  have e4 : (rkL ks i)[k] = (rkL ks i).getD k 0 := by simp [List.getD, h2]
  rw [e3, e4, e1, e2]
end Go.Proofs.Ytpmindbipclphaa
