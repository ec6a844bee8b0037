/- The reference's Turns and turn walked. Conditions stand in the statements. -/
import Derived.Test.YtjkcbklgddnbdaaShaRStart
import Derived.Test.YtjkcbklgddnbdaaShaBlk0
set_option linter.unusedSimpArgs false
namespace Go.Proofs.Ytjkcbklgddnbdaa
open Go.RowKit

theorem rrot_any (x a : Nat) (w : World) (hx : x < 4294967296) (h1 : 1 ≤ a) (h2 : a ≤ 31) : Calls Try.prog 39 #[.int .u32 x, .int .i64 a] w fun e w' => e = .returned (.int .u32 (rotr x a : Nat)) ∧ w = w' := by
  obtain ⟨s, hs⟩ : ∃ s, s = 32 - a := ⟨_, rfl⟩
  have e1 : (32 : Int) - (a : Int) = (s : Int) := by omega
  have s1 : 1 ≤ s := by omega
  have s2 : s ≤ 31 := by omega
  have HR := Lib.hid (show bits .or .u32 ((x : Int) / 2 ^ a) ((x : Int) * 2 ^ s % 4294967296) = ((rotr x a : Nat) : Int) by
    have e1 : (x : Int) * 2 ^ s % 4294967296 = ((x * 2 ^ s % 4294967296 : Nat) : Int) := by rw [Int.natCast_emod, Int.natCast_mul, Int.natCast_pow]; rfl
    have e2 : (x : Int) / 2 ^ a = ((x / 2 ^ a : Nat) : Int) := by rw [Int.natCast_ediv, Int.natCast_pow]; rfl
    rw [e1, e2]
    have h := u32_or_nat (x / 2 ^ a) (x * 2 ^ s % 4294967296) (Nat.lt_of_le_of_lt (Nat.div_le_self _ _) hx) (Nat.mod_lt _ (by decide))
    refine h.trans ?_
    unfold rotr
    rw [hs, Nat.or_comm])
  clear hs
  go_enter Try.func39, Try.ntmps39
  go_wp2_with fail
  go_ret
  exact ⟨by rw [← HR.out]; rfl, rfl⟩
set_option maxHeartbeats 1000000 in
set_option maxRecDepth 10000 in
theorem rturns_any (w : World) : Calls Try.prog 28 #[] w fun e w' => e = .returned (.agg (wA 64 turnL)) ∧ Fr0 w w' := by
  go_enter Try.func28, Try.ntmps28
  go_wp2_with fail
  go_loopw [2] (fun v3 wr => ∃ k : Nat, k ≤ 64 ∧ v3 = .int .i64 k ∧ Fr0 w wr ∧ Blk wr (w.heap.size + 1) (wA 64 (turnL.take k)) 50 ∧ Blk wr w.heap.size (wA 64 []) 50) (fun v3 _ => 64 - (intOf v3).toNat)
  case atStart =>
    refine ⟨0, Nat.zero_le _, rfl, ((Fr0.refl _).alloc _).alloc _, ?_, ?_⟩
    · have h := Blk.new (w.alloc (.cells (wA 64 []) 50)) (wA 64 []) 50
      rw [show (w.alloc (.cells (wA 64 []) 50)).heap.size = w.heap.size + 1 from Array.size_push _] at h
      exact h
    · exact (Blk.new w (wA 64 []) 50).alloc _
  case round =>
    obtain ⟨k, hk, rfl, hf, hb, hz⟩ := hrel
    by_cases hlt : k < 64
    · have F2 := Lib.hid hf
      have B2 := Lib.hid hb
      have Z2 := Lib.hid hz
      have HT := Lib.hid (fun W => rturn_any (k : Int) W)
      have e1 : turnI k = (turnN k : Int) := turnI_at k (by omega)
      rw [e1] at HT
      have i0 : (0 : Int) ≤ (k : Int) := by omega
      have i1 : (k : Int) < 64 := by omega
      clear hf hb hz e1
      go_wp2_with (go_at_call 38; refine (HT.out _).mono ?_; rintro e w5 ⟨rfl, hf⟩; have F5 := Lib.hid (Fr0.trans F2.out hf); have B5 := Lib.hid ((B2.out).fr0 hf); have Z5 := Lib.hid ((Z2.out).fr0 hf); have c1 := (B5.out).cell k (wA_at hlt); have g1 := (B5.out).free k; clear hf)
      go_roundw
      case measure => simp [intOf]; omega
      case rel =>
        have hB := (B5.out).set k (.int .u32 (turnN k : Int))
        have hl : (turnL.take k).length = k := by rw [List.length_take, turnL_len]; omega
        have hp := wA_push (n := 64) (l := turnL.take k) (by omega) (turnN k)
        rw [hl] at hp
        rw [hp, ← turnL_at hlt] at hB
        exact ⟨k + 1, by omega, by go_num, Fr.setCell (p := ⟨w.heap.size + 1, k, none⟩) F5.out (.inr (by show w.heap.size ≤ w.heap.size + 1; omega)) _, hB, (Z5.out).other (by show w.heap.size ≠ w.heap.size + 1; omega) _⟩
    · obtain rfl : k = 64 := by omega
      clear hlt hk
      have hl : turnL.take 64 = turnL := List.take_of_length_le (Nat.le_of_eq turnL_len)
      rw [hl] at hb
      have hi : (Try.prog.info? 50).map (·.size) = some (wA 64 turnL).size := by rw [wA_size (Nat.le_of_eq turnL_len)]; kernel_rfl
      have ho : (wA 64 []).size = (wA 64 turnL).size := by rw [wA_size (l := turnL) (Nat.le_of_eq turnL_len), wA_size (l := []) (Nat.zero_le _)]
      have h1 := wA_one 64 turnL
      obtain ⟨cs, hcs⟩ : ∃ cs, cs = wA 64 turnL := ⟨_, rfl⟩
      rw [← hcs] at hb hi ho h1
      obtain ⟨zs, hzs⟩ : ∃ zs, zs = wA 64 [] := ⟨_, rfl⟩
      rw [← hzs] at hz ho
      have HCS := Lib.hid hcs
      clear hcs hzs hl
      repeat (first
        | refine wpList_load_row rfl 50 _ rfl (w.heap.size + 1) rfl 50 _ (0, 0) _ hb Try.underlying50 rfl hi ?_
        | refine wpList_store_row rfl 50 _ _ rfl w.heap.size cs rfl rfl 50 _ hz hi ho h1 ?_
        | go_values | go_skip | go_step)
      refine bodyPost_ret (v := .agg cs) (results_cell_row rfl _ _ w.heap.size 50 cs (0, 0) _ rfl (hz.setRow cs) Try.underlying50 rfl hi) rfl ⟨by rw [HCS.out], Fr.setRow hf (.inr (Nat.le_refl _)) cs⟩
end Go.Proofs.Ytjkcbklgddnbdaa
