/- wire.Fixed and the reference's Fixed. Conditions stand in the statements. -/
import Derived.Test.YthgmimeheeajgaaWireRest
namespace Go.Proofs.Ythgmimeheeajgaa
open Go.RowKit

/-- The last k bytes of a number, the highest first. -/
def fixForm (n : Nat) : Nat → List UInt8
  | 0 => []
  | k + 1 => UInt8.ofNat (n / 256 ^ k % 256) :: fixForm n k
theorem fixForm_len (n : Nat) : ∀ k, (fixForm n k).length = k
  | 0 => rfl
  | k + 1 => by simp [fixForm, fixForm_len n k]
/-- A fixed number's form: the sizes that may be. -/
def fixed (n : Nat) (size : Int) : List UInt8 := if size < 1 ∨ 8 < size then [] else fixForm n size.toNat

theorem pow8 (i : Nat) : 2 ^ (8 * i) = 256 ^ i := by rw [Nat.pow_mul]
theorem shr8 (n i : Nat) (hi : i ≤ 7) : (n : Int) / 2 ^ ((8 * (i : Int)).toNat) = ((n / 256 ^ i : Nat) : Int) := by
  have e : (8 * (i : Int)).toNat = 8 * i := by omega
  rw [e, ← pow8]
  simp

theorem own_at {w : World} {base size n cap g : Nat} {t : TypeId} {xs : List Value} (h : w.ownsRow base t size (.slice (some ⟨g, 0, none⟩) n cap) n xs) {j : Nat} {u : Value} (hj : xs[j]? = some u) :
    w.cell? ⟨g, j, none⟩ = some u ∧ w.frozen? ⟨g, j, none⟩ = false := by
  rcases h.2 with ⟨h', _⟩ | ⟨g', cap', cur, h', hb, hg, hnc, hcm, hcs, htake⟩
  · cases h'
  · injection h' with hA _ hc
    injection hA with hA
    injection hA with hA
    subst hA hc
    have := (Rd.of_own h).news j u hj
    have hadd : (⟨g, 0, none⟩ : Addr).add j = ⟨g, j, none⟩ := by unfold Addr.add; split <;> simp_all
    rw [hadd] at this
    exact ⟨this, by simp [World.frozen?, hg]⟩

set_option maxHeartbeats 400000 in
theorem wireFixed_bad (n : Nat) (size : Int) (hb : size < 1 ∨ 8 < size) (w : World) :
    Calls Try.prog 16 #[.int .u64 (n : Int), .int .i64 size] w fun e w' => e = .returned (.slice none 0 0) ∧ w' = w := by
  by_cases k0 : size < 1
  · have q0 : decide (size < 1) = true := by simpa using k0
    clear k0 hb
    go_enter Try.func16, Try.ntmps16
    go_wp2_with fail
    go_ret
    exact ⟨rfl, rfl⟩
  · have q0 : decide (size < 1) = false := by simpa using k0
    have q1 : decide (8 < size) = true := by simp; omega
    clear k0 hb
    go_enter Try.func16, Try.ntmps16
    go_wp2_with fail
    go_ret
    exact ⟨rfl, rfl⟩

set_option maxHeartbeats 400000 in
set_option maxRecDepth 100000 in
theorem wireFixed_good (n : Nat) (size : Nat) (hn : n < 18446744073709551616) (h1 : 1 ≤ size) (h8 : size ≤ 8) (w : World) :
    Calls Try.prog 16 #[.int .u64 (n : Int), .int .i64 (size : Int)] w fun e w' => ∃ v, e = .returned v ∧ w'.ownsRow w.heap.size 5 1 v size (byts (fixForm n size)) ∧ Fr0 w w' := by
  obtain ⟨i0, hi, hz0, hz1, hz2⟩ := info_parts infoU8
  obtain ⟨W, hmk, hown, hgr⟩ := run_make_full (P := Try.prog) w w.heap.size 23 5 i0 (.int .u8 0) 1 Try.underlying23 hi hz0 hz1 .i64 .i64 size (by rw [hz2]; omega) (by unfold maxLen; omega) (Nat.le_refl _)
  have HO := Lib.hid hown
  have HG := Lib.hid hgr
  have q0 : decide ((size : Int) < 1) = false := by simp; omega
  have q1 : decide (8 < (size : Int)) = false := by simp; omega
  have h0 : (0 : Int) ≤ size := by omega
  clear hown hgr hi hz0 hz1 hz2
  go_enter Try.func16, Try.ntmps16
  go_wp2_with fail
  clear hmk q0 q1 h0
  go_loopw [16] (fun v16 wr => ∃ i : Nat, v16 = .int .i64 (i : Int) ∧ i ≤ size ∧ Fr0 w wr ∧ wr.ownsRow w.heap.size 5 1 (.slice (some ⟨w.heap.size, 0, none⟩) size size) size (byts (List.replicate (size - i) 0 ++ fixForm n i))) (fun v16 _ => size - (intOf v16).toNat)
  case atStart =>
    refine ⟨0, rfl, by omega, (Fr0.refl w).grown HG.out (fun k hk => by cases hk), ?_⟩
    have := HO.out
    rw [show (Value.int IntKind.u8 0).cells = #[.int .u8 0] from rfl, toList_madeCells_one] at this
    simpa [fixForm, byts] using this
  case round =>
    obtain ⟨i, rfl, hi, hf, hown⟩ := hrel
    by_cases hlt : i < size
    · have hidx : ((size : Int) - 1 - i).toNat = size - 1 - i := by omega
      have e0 : (0 : Int) ≤ (size : Int) - 1 - i := by omega
      have e1 : (size : Int) - 1 - i < size := by omega
      have e2 : IntKind.i64.wrap ((size : Int) - 1) = (size : Int) - 1 := IntWalk.i64_in _ (by omega)
      have e3 : IntKind.i64.wrap ((size : Int) - 1 - i) = (size : Int) - 1 - i := IntWalk.i64_in _ (by omega)
      have e4 : IntKind.i64.wrap (8 * (i : Int)) = 8 * (i : Int) := IntWalk.i64_in _ (by omega)
      have es := shr8 n i (by omega)
      have eo : ((n / 256 ^ i : Nat) : Int) % 256 = ((UInt8.ofNat (n / 256 ^ i % 256)).toNat : Int) := by rw [u8_of _ (by omega)]; omega
      obtain ⟨cB, fB⟩ := own_at hown (j := size - 1 - i) (u := .int .u8 (0 : UInt8).toNat) (by rw [byts, List.getElem?_map, List.getElem?_append_left (by simp; omega), List.getElem?_replicate_of_lt (by omega)]; rfl)
      have HO := Lib.hid hown
      have EO := Lib.hid eo
      clear hown eo
      go_wp2_with fail
      clear hidx e0 e1 e2 e3 e4 es cB fB
      go_roundw
      case measure => simp [intOf]; omega
      refine ⟨i + 1, by simp, by omega, Fr.setCell (p := ⟨w.heap.size, size - 1 - i, none⟩) hf (.inr (Nat.le_refl _)) _, ?_⟩
      have := ((HO.out).stored (size - 1 - i) (.int .u8 ((n : Int) / 256 ^ i % 256))).1
      have e : (byts (List.replicate (size - i) 0 ++ fixForm n i)).set (size - 1 - i) (.int .u8 ((n : Int) / 256 ^ i % 256)) = byts (List.replicate (size - (i + 1)) 0 ++ fixForm n (i + 1)) := by
        have h2 : ((n : Int) / 256 ^ i % 256) = ((UInt8.ofNat (n / 256 ^ i % 256)).toNat : Int) := by rw [← EO.out]; simp
        rw [h2, show size - i = (size - 1 - i) + 1 by omega, List.replicate_succ', show size - (i + 1) = size - 1 - i by omega]
        simp [byts, fixForm]
      rwa [e] at this
    · have e : i = size := by omega
      subst e
      have HO := Lib.hid hown
      clear hown
      go_wp2_with fail
      go_ret
      exact ⟨_, rfl, by simpa using HO.out, hf⟩

theorem wireFixed_any (n : Nat) (size : Int) (hn : n < 18446744073709551616) (w : World) :
    Calls Try.prog 16 #[.int .u64 (n : Int), .int .i64 size] w fun e w' => ∃ v, e = .returned v ∧ w'.ownsRow w.heap.size 5 1 v (fixed n size).length (byts (fixed n size)) ∧ Fr0 w w' := by
  by_cases hb : size < 1 ∨ 8 < size
  · refine (wireFixed_bad n size hb w).mono ?_
    rintro e w' ⟨rfl, rfl⟩
    rw [show fixed n size = [] from if_pos hb]
    exact ⟨_, rfl, World.ownsRow_nil _ _ _ _, Fr0.refl _⟩
  · obtain ⟨k, rfl⟩ : ∃ k : Nat, size = k := ⟨size.toNat, by omega⟩
    rw [show fixed n (k : Int) = fixForm n k from by unfold fixed; rw [if_neg hb]; rfl, fixForm_len]
    exact wireFixed_good n k hn (by omega) (by omega) w
end Go.Proofs.Ythgmimeheeajgaa
