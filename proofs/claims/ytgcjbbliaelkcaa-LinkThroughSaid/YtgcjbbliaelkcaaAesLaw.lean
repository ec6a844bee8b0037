/- AES in plain bytes: products, the table, a key's rounds, a block hidden. No condition. -/
import Derived.Test.YtgcjbbliaelkcaaBytes
import Derived.Test.YtgcjbbliaelkcaaWireLaw
namespace Go.Proofs.Ytgcjbbliaelkcaa

/-- A byte, twice. -/
def xtU (a : UInt8) : UInt8 := UInt8.ofNat (a.toNat * 2) ^^^ UInt8.ofNat (a.toNat / 128 * 27)
def tmsA : Nat → UInt8 → Nat → UInt8 → UInt8
  | 0, _, _, x => x
  | k + 1, a, b, x => if b = 0 then x else tmsA k (xtU a) (b / 2) (if b % 2 = 1 then x ^^^ a else x)
/-- The product of two bytes, as the program has it. -/
def tms (a b : UInt8) : UInt8 := tmsA 8 a b.toNat 0
theorem tmsA_zero (k : Nat) (a x : UInt8) : tmsA k a 0 x = x := by cases k <;> rfl
theorem tmsA_step (k : Nat) (a : UInt8) (b : Nat) (x : UInt8) (h : b ≠ 0) : tmsA (k + 1) a b x = tmsA k (xtU a) (b / 2) (if b % 2 = 1 then x ^^^ a else x) := if_neg h
def rotU (y : UInt8) : UInt8 := UInt8.ofNat (y.toNat * 2) ||| UInt8.ofNat (y.toNat / 128)
def sxA : Nat → UInt8 × UInt8 → UInt8 × UInt8
  | 0, p => p
  | k + 1, p => let q := sxA k p; (q.1 ^^^ rotU q.2, rotU q.2)
def sxU (b : UInt8) : UInt8 := (sxA 4 (b ^^^ 99, b)).1
/-- The walk through all bytes but 0: both bytes, the table, the table back. -/
def swS : Nat → UInt8 × UInt8 × List UInt8 × List UInt8
  | 0 => (1, 1, List.replicate 256 0, List.replicate 256 0)
  | k + 1 => let s := swS k; (s.1 ^^^ xtU s.1, tms s.2.1 246, s.2.2.1.set s.1.toNat (sxU s.2.1), s.2.2.2.set (sxU s.2.1).toNat s.1)
theorem swS_len : ∀ k, (swS k).2.2.1.length = 256 ∧ (swS k).2.2.2.length = 256
  | 0 => ⟨List.length_replicate, List.length_replicate⟩
  | k + 1 => ⟨by rw [swS, List.length_set]; exact (swS_len k).1, by rw [swS, List.length_set]; exact (swS_len k).2⟩
/-- All bytes swapped. -/
def sbox : List UInt8 := (swS 255).2.2.1.set 0 99
def sback : List UInt8 := (swS 255).2.2.2.set 99 0
theorem sbox_len : sbox.length = 256 := by unfold sbox; rw [List.length_set]; exact (swS_len 255).1
theorem sback_len : sback.length = 256 := by unfold sback; rw [List.length_set]; exact (swS_len 255).2
def swp (x : UInt8) : UInt8 := sbox.getD x.toNat 0

/-- The product as the reference has it: the polynomials' product, and what is left of it. -/
def rtP (a b : Nat) : Nat → Nat
  | 0 => 0
  | i + 1 => if b / 2 ^ i % 2 = 1 then rtP a b i ^^^ (a * 2 ^ i) else rtP a b i
def rtR (p : Nat) : Nat → Nat
  | 0 => p
  | j + 1 => if rtR p j / 2 ^ (14 - j) % 2 = 1 then rtR p j ^^^ (283 * 2 ^ (6 - j)) else rtR p j
def rtm (a b : UInt8) : UInt8 := UInt8.ofNat (rtR (rtP a.toNat b.toNat 8) 7)
def rOther (a : UInt8) : UInt8 := match (List.range 255).find? (fun i => rtm a (UInt8.ofNat (i + 1)) == 1) with | some i => UInt8.ofNat (i + 1) | none => 0
def rleft (a : UInt8) (n : Nat) : UInt8 := UInt8.ofNat (a.toNat * 2 ^ n) ||| UInt8.ofNat (a.toNat / 2 ^ (8 - n))
def rSwap (a : UInt8) : UInt8 := rOther a ^^^ rleft (rOther a) 1 ^^^ rleft (rOther a) 2 ^^^ rleft (rOther a) 3 ^^^ rleft (rOther a) 4 ^^^ 99
set_option maxRecDepth 100000 in
theorem tms1_all : (List.range 256).all (fun i => tms 1 (UInt8.ofNat i) == UInt8.ofNat i) = true := by decide +kernel
set_option maxRecDepth 100000 in
theorem rtm2_all : (List.range 256).all (fun i => rtm 2 (UInt8.ofNat i) == tms 2 (UInt8.ofNat i)) = true := by decide +kernel
set_option maxRecDepth 100000 in
theorem rtm3_all : (List.range 256).all (fun i => rtm 3 (UInt8.ofNat i) == tms 3 (UInt8.ofNat i)) = true := by decide +kernel
set_option maxRecDepth 100000 in
theorem rtmx_all : (List.range 256).all (fun i => rtm (UInt8.ofNat i) 2 == tms (UInt8.ofNat i) 2) = true := by decide +kernel
set_option maxRecDepth 100000 in
theorem rSwap_all : (List.range 256).map (fun i => rSwap (UInt8.ofNat i)) = sbox := by decide +kernel
theorem u8_all {p : UInt8 → Bool} (h : (List.range 256).all (fun i => p (UInt8.ofNat i)) = true) (x : UInt8) : p x = true := by
  have := List.all_eq_true.1 h x.toNat (List.mem_range.2 x.toNat_lt)
  rwa [UInt8.ofNat_toNat] at this
theorem tms1 (x : UInt8) : tms 1 x = x := by simpa using u8_all (p := fun x => tms 1 x == x) tms1_all x
theorem rtm2 (x : UInt8) : rtm 2 x = tms 2 x := by simpa using u8_all (p := fun x => rtm 2 x == tms 2 x) rtm2_all x
theorem rtm3 (x : UInt8) : rtm 3 x = tms 3 x := by simpa using u8_all (p := fun x => rtm 3 x == tms 3 x) rtm3_all x
theorem rtmx (x : UInt8) : rtm x 2 = tms x 2 := by simpa using u8_all (p := fun x => rtm x 2 == tms x 2) rtmx_all x
theorem rSwap_swp (i : Nat) (h : i < 256) : rSwap (UInt8.ofNat i) = sbox.getD i 0 := by
  rw [← rSwap_all]; simp [List.getD, h]

/-- The powers of 2. -/
def pwU : Nat → UInt8
  | 0 => 1
  | n + 1 => tms (pwU n) 2
/-- The next byte of a key's rounds. -/
def kB (key : List UInt8) (p : Nat) (l : List UInt8) : UInt8 :=
  if p < 16 then key.getD p 0 else l.getD (p - 16) 0 ^^^ (if p % 16 < 4 then swp (l.getD (p / 16 * 16 - 4 + (p + 1) % 4) 0) ^^^ (if p % 16 = 0 then pwU (p / 16 - 1) else 0) else l.getD (p - 4) 0)
def kS (key : List UInt8) : Nat → List UInt8
  | 0 => []
  | p + 1 => kS key p ++ [kB key p (kS key p)]
theorem kS_len (key : List UInt8) : ∀ p, (kS key p).length = p
  | 0 => rfl
  | p + 1 => by rw [kS, List.length_append, kS_len key p]; rfl
theorem kS_at (key : List UInt8) (p : Nat) : ∀ d, (kS key (p + 1 + d)).getD p 0 = kB key p (kS key p)
  | 0 => by rw [Nat.add_zero, kS, List.getD, List.getElem?_append_right (by rw [kS_len]; exact Nat.le_refl _), kS_len, Nat.sub_self]; rfl
  | d + 1 => by
    rw [← Nat.add_assoc, kS, ← kS_at key p d, List.getD, List.getElem?_append_left (by rw [kS_len]; omega)]; rfl
theorem kS_low (key : List UInt8) {p n m : Nat} (h : p < n) (k : p < m) : (kS key n).getD p 0 = (kS key m).getD p 0 := by
  obtain ⟨d, rfl⟩ : ∃ d, n = p + 1 + d := ⟨n - (p + 1), by omega⟩
  obtain ⟨e, rfl⟩ : ∃ e, m = p + 1 + e := ⟨m - (p + 1), by omega⟩
  rw [kS_at, kS_at]
theorem kS_key {key : List UInt8} (h : key.length = 16) : kS key 16 = key := by
  apply List.ext_getElem (by rw [kS_len, h])
  intro i h1 h2
  have hi : i < 16 := by rw [kS_len] at h1; exact h1
  obtain ⟨d, hd⟩ : ∃ d, 16 = i + 1 + d := ⟨16 - (i + 1), by omega⟩
  have e := kS_at key i d
  rw [← hd, kB, if_pos hi] at e
  simpa [List.getD, h1, h2] using e
/-- A key's rounds: 11 of 16 bytes. -/
def ksL (key : List UInt8) : List UInt8 := kS key 176
theorem ksL_len (key : List UInt8) : (ksL key).length = 176 := kS_len key 176
def adL (b r : List UInt8) : List UInt8 := (List.range 16).map fun i => b.getD i 0 ^^^ r.getD i 0
def mvL (b : List UInt8) : List UInt8 := (List.range 16).map fun i => swp (b.getD ((i + 4 * (i % 4)) % 16) 0)
def mxB (b : List UInt8) (i : Nat) : UInt8 := tms 2 (b.getD (i / 4 * 4 + i % 4) 0) ^^^ tms 3 (b.getD (i / 4 * 4 + (i + 1) % 4) 0) ^^^ b.getD (i / 4 * 4 + (i + 2) % 4) 0 ^^^ b.getD (i / 4 * 4 + (i + 3) % 4) 0
def mxL (b : List UInt8) : List UInt8 := (List.range 16).map (mxB b)
def rkL (ks : List UInt8) (i : Nat) : List UInt8 := (ks.drop (16 * i)).take 16
/-- A block behind so many rounds. -/
def hdS (ks b : List UInt8) : Nat → List UInt8
  | 0 => adL b (rkL ks 0)
  | i + 1 => adL (if i + 1 < 10 then mxL (mvL (hdS ks b i)) else mvL (hdS ks b i)) (rkL ks (i + 1))
/-- A block hidden. -/
def hidL (key b : List UInt8) : List UInt8 := hdS (ksL key) b 10
theorem map16_len (f : Nat → UInt8) : ((List.range 16).map f).length = 16 := by simp
theorem hdS_len (ks b : List UInt8) : ∀ i, (hdS ks b i).length = 16
  | 0 => map16_len _
  | _ + 1 => map16_len _
theorem hidL_len (key b : List UInt8) : (hidL key b).length = 16 := hdS_len _ _ _
end Go.Proofs.Ytgcjbbliaelkcaa
