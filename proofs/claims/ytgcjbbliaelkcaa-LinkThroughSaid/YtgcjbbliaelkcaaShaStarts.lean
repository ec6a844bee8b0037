/- The words from which a digest begins. Conditions stand in the statements. -/
import Derived.Test.YtgcjbbliaelkcaaShaTurns
namespace Go.Proofs.Ytgcjbbliaelkcaa
open Go.RowKit

def startL : List Nat := (List.range 8).map startN
theorem startL_len : startL.length = 8 := by simp [startL]
theorem startL_at {k : Nat} (h : k < 8) : startL.take (k + 1) = startL.take k ++ [startN k] := by
  rw [List.take_add_one, show startL[k]? = some (startN k) from by simp [startL, h]]
  rfl
theorem startL_eq : startH.list = startL := by
  unfold startL startH H8.list
  rw [show List.range 8 = [0, 1, 2, 3, 4, 5, 6, 7] from rfl]
  simp only [List.map_cons, List.map_nil]
set_option maxHeartbeats 1000000 in
theorem starts_any (w : World) : Calls Try.prog 59 #[] w fun e w' => e = .returned (.agg (wA 8 startL)) ∧ Fr0 w w' := by
  go_enter Try.func59, Try.ntmps59
  go_wp2_with fail
  go_loopw [3] (fun v3 wr => ∃ k : Nat, k ≤ 8 ∧ v3 = .int .i64 k ∧ Fr0 w wr ∧ Blk wr (w.heap.size + 1) (wA 8 (startL.take k)) 119 ∧ Blk wr w.heap.size (wA 8 []) 119) (fun v3 _ => 8 - (intOf v3).toNat)
  case atStart =>
    refine ⟨0, Nat.zero_le _, rfl, ((Fr0.refl _).alloc _).alloc _, ?_, ?_⟩
    · have h := Blk.new (w.alloc (.cells (wA 8 []) 119)) (wA 8 []) 119
      rw [show (w.alloc (.cells (wA 8 []) 119)).heap.size = w.heap.size + 1 from Array.size_push _] at h
      exact h
    · exact (Blk.new w (wA 8 []) 119).alloc _
  case round =>
    obtain ⟨k, hk, rfl, hf, hb, hz⟩ := hrel
    by_cases hlt : k < 8
    · have F2 := Lib.hid hf
      have B2 := Lib.hid hb
      have Z2 := Lib.hid hz
      have HT := Lib.hid (fun W => start_any (k : Int) W)
      have e1 : startI k = (startN k : Int) := by unfold startI; rw [if_pos (by omega)]; rfl
      rw [e1] at HT
      have i0 : (0 : Int) ≤ (k : Int) := by omega
      have i1 : (k : Int) < 8 := by omega
      have c1 := hb.cell k (wA_at hlt)
      have g1 := hb.free k
      clear hf hb hz e1
      go_wp2_with (go_at_call 67; refine (HT.out _).mono ?_; rintro e w' ⟨rfl, rfl⟩)
      go_roundw
      case measure => simp [intOf]; omega
      case rel =>
        have hB := (B2.out).set k (.int .u32 (startN k : Int))
        have hl : (startL.take k).length = k := by rw [List.length_take, startL_len]; omega
        have hp := wA_push (n := 8) (l := startL.take k) (by omega) (startN k)
        rw [hl] at hp
        rw [hp, ← startL_at hlt] at hB
        exact ⟨k + 1, by omega, by go_num, Fr.setCell (p := ⟨w.heap.size + 1, k, none⟩) F2.out (.inr (by show w.heap.size ≤ w.heap.size + 1; omega)) _, hB, (Z2.out).other (by show w.heap.size ≠ w.heap.size + 1; omega) _⟩
    · obtain rfl : k = 8 := by omega
      clear hlt hk
      have hl : startL.take 8 = startL := List.take_of_length_le (Nat.le_of_eq startL_len)
      rw [hl] at hb
      have hi : (Try.prog.info? 119).map (·.size) = some (wA 8 startL).size := by rw [wA_size (Nat.le_of_eq startL_len)]; kernel_rfl
      have ho : (wA 8 []).size = (wA 8 startL).size := by rw [wA_size (l := startL) (Nat.le_of_eq startL_len), wA_size (l := []) (Nat.zero_le _)]
      have h1 := wA_one 8 startL
      obtain ⟨cs, hcs⟩ : ∃ cs, cs = wA 8 startL := ⟨_, rfl⟩
      rw [← hcs] at hb hi ho h1
      obtain ⟨zs, hzs⟩ : ∃ zs, zs = wA 8 [] := ⟨_, rfl⟩
      rw [← hzs] at hz ho
      have HCS := Lib.hid hcs
      clear hcs hzs hl
      repeat (first
        | refine wpList_load_row rfl 119 _ rfl (w.heap.size + 1) rfl 119 _ (0, 0) _ hb Try.underlying119 rfl hi ?_
        | refine wpList_store_row rfl 119 _ _ rfl w.heap.size cs rfl rfl 119 _ hz hi ho h1 ?_
        | go_step)
      refine bodyPost_ret (v := .agg cs) (results_cell_row rfl _ _ w.heap.size 119 cs (0, 0) _ rfl (hz.setRow cs) Try.underlying119 rfl hi) rfl ⟨by rw [HCS.out], Fr.setRow hf (.inr (Nat.le_refl _)) cs⟩
end Go.Proofs.Ytgcjbbliaelkcaa
