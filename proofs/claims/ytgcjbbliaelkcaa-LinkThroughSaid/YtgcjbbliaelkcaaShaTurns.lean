/- All words of a block's turns. Conditions stand in the statements. -/
import Derived.Test.YtgcjbbliaelkcaaShaLaw
import Derived.Test.YtgcjbbliaelkcaaSteps
namespace Go.Proofs.Ytgcjbbliaelkcaa
open Go.RowKit

/-- Words as cells. -/
def wcells (l : List Nat) : List Value := l.map fun (x : Nat) => Value.int .u32 (x : Int)
/-- An array of n words, the first of them given. -/
def wA (n : Nat) (l : List Nat) : Array Value := (wcells l ++ List.replicate (n - l.length) (Value.int .u32 0)).toArray
theorem wA_size {n : Nat} {l : List Nat} (h : l.length ≤ n) : (wA n l).size = n := by simp [wA, wcells]; omega
theorem wA_at {n : Nat} {l : List Nat} {i : Nat} (h : i < n) : (wA n l)[i]? = some (Value.int .u32 ((l.getD i 0 : Nat) : Int)) := by
  unfold wA wcells
  rw [List.getElem?_toArray, List.getElem?_append]
  split
  · rename_i h1
    rw [List.length_map] at h1
    rw [List.getElem?_map, List.getElem?_eq_getElem h1, show l.getD i 0 = l[i] from by simp [List.getD, h1]]
    rfl
  · rename_i h1
    rw [List.length_map] at h1
    rw [List.length_map, List.getElem?_replicate, if_pos (by omega), show l.getD i 0 = 0 from by simp [List.getD, List.getElem?_eq_none (Nat.le_of_not_lt h1)]]
    rfl
theorem wA_push {n : Nat} {l : List Nat} (h : l.length < n) (x : Nat) : (wA n l).setIfInBounds l.length (Value.int .u32 (x : Int)) = wA n (l ++ [x]) := by
  unfold wA wcells
  rw [List.setIfInBounds_toArray, List.set_append_right _ _ (by simp), List.map_append, List.length_map, Nat.sub_self, List.append_assoc, List.length_append]
  obtain ⟨m, hm⟩ : ∃ m, n - l.length = m + 1 := ⟨n - l.length - 1, by omega⟩
  rw [hm, show n - (l.length + [x].length) = m from by simp; omega, List.replicate_succ]
  rfl
theorem wA_one (n : Nat) (l : List Nat) : (wA n l).all (·.oneCell') = true := by
  rw [Array.all_eq_true_iff_forall_mem]
  intro v hv
  have hv := List.mem_toArray.mp hv
  rcases List.mem_append.mp hv with h | h
  · obtain ⟨x, _, rfl⟩ := List.mem_map.mp h; rfl
  · rw [List.eq_of_mem_replicate h]; rfl
theorem Blk.setRow_other {w : World} {b g : Nat} {vs : Array Value} {t : TypeId} (h : Blk w b vs t) (hne : b ≠ g) (cs : Array Value) : Blk (w.setRow g cs) b vs t := by
  have hne' : ¬ g = b := fun e => hne e.symm
  have h' : w.heap[b]? = some (.cells vs t (0, 0)) := h
  show (w.setRow g cs).heap[b]? = _
  simp only [World.setRow, Array.getElem?_modify, if_neg hne']
  exact h'
theorem wpList_store_row {P : Program} {ops : Array Oper} {rest : List Oper} {o : Oper} {a : Act} {w : World} {Q : Exit → Act → World → Prop} (hgd : o.guard = none) (ty : TypeId) (x y : Operand) (ho : o.op = .store ty x y)
    (g : Nat) (cells : Array Value) (hx : a.eval x = .pointer (some ⟨g, 0, none⟩)) (hy : a.eval y = .agg cells)
    (t : TypeId) (old : Array Value) (hg : Blk w g old t) (hi : (P.info? ty).map (·.size) = some cells.size)
    (hold : old.size = cells.size) (h1 : cells.all (·.oneCell') = true)
    (h : wpList P ops Q rest (a.put o.dst undef) (w.setRow g cells)) : wpList P ops Q (o :: rest) a w :=
  wpList_plain hgd fun _ hK => wp_store_row ty x y ho g cells hx hy t old hg hi hold h1 (hK _ _ h)
theorem turnL_len : turnL.length = 64 := by simp [turnL]
theorem turnL_at {k : Nat} (h : k < 64) : turnL.take (k + 1) = turnL.take k ++ [turnN k] := by
  rw [List.take_add_one, show turnL[k]? = some (turnN k) from by simp [turnL, h]]
  rfl
set_option maxHeartbeats 1000000 in
theorem turns_any (w : World) : Calls Try.prog 60 #[] w fun e w' => e = .returned (.agg (wA 64 turnL)) ∧ Fr0 w w' := by
  go_enter Try.func60, Try.ntmps60
  go_wp2_with fail
  go_loopw [3] (fun v3 wr => ∃ k : Nat, k ≤ 64 ∧ v3 = .int .i64 k ∧ Fr0 w wr ∧ Blk wr (w.heap.size + 1) (wA 64 (turnL.take k)) 121 ∧ Blk wr w.heap.size (wA 64 []) 121) (fun v3 _ => 64 - (intOf v3).toNat)
  case atStart =>
    refine ⟨0, Nat.zero_le _, rfl, ((Fr0.refl _).alloc _).alloc _, ?_, ?_⟩
    · have h := Blk.new (w.alloc (.cells (wA 64 []) 121)) (wA 64 []) 121
      rw [show (w.alloc (.cells (wA 64 []) 121)).heap.size = w.heap.size + 1 from Array.size_push _] at h
      exact h
    · exact (Blk.new w (wA 64 []) 121).alloc _
  case round =>
    obtain ⟨k, hk, rfl, hf, hb, hz⟩ := hrel
    by_cases hlt : k < 64
    · have F2 := Lib.hid hf
      have B2 := Lib.hid hb
      have Z2 := Lib.hid hz
      have HT := Lib.hid (fun W => turn_any (k : Int) W)
      have e1 : turnI k = (turnN k : Int) := by unfold turnI; rw [if_pos (by omega)]; rfl
      rw [e1] at HT
      have i0 : (0 : Int) ≤ (k : Int) := by omega
      have i1 : (k : Int) < 64 := by omega
      have c1 := hb.cell k (wA_at hlt)
      have g1 := hb.free k
      clear hf hb hz e1
      go_wp2_with (go_at_call 68; refine (HT.out _).mono ?_; rintro e w' ⟨rfl, rfl⟩)
      go_roundw
      case measure => simp [intOf]; omega
      case rel =>
        have hB := (B2.out).set k (.int .u32 (turnN k : Int))
        have hl : (turnL.take k).length = k := by rw [List.length_take, turnL_len]; omega
        have hp := wA_push (n := 64) (l := turnL.take k) (by omega) (turnN k)
        rw [hl] at hp
        rw [hp, ← turnL_at hlt] at hB
        exact ⟨k + 1, by omega, by go_num, Fr.setCell (p := ⟨w.heap.size + 1, k, none⟩) F2.out (.inr (by show w.heap.size ≤ w.heap.size + 1; omega)) _, hB, (Z2.out).other (by show w.heap.size ≠ w.heap.size + 1; omega) _⟩
    · obtain rfl : k = 64 := by omega
      clear hlt hk
      have hl : turnL.take 64 = turnL := List.take_of_length_le (Nat.le_of_eq turnL_len)
      rw [hl] at hb
      have hi : (Try.prog.info? 121).map (·.size) = some (wA 64 turnL).size := by rw [wA_size (Nat.le_of_eq turnL_len)]; kernel_rfl
      have ho : (wA 64 []).size = (wA 64 turnL).size := by rw [wA_size (l := turnL) (Nat.le_of_eq turnL_len), wA_size (l := []) (Nat.zero_le _)]
      have h1 := wA_one 64 turnL
      obtain ⟨cs, hcs⟩ : ∃ cs, cs = wA 64 turnL := ⟨_, rfl⟩
      rw [← hcs] at hb hi ho h1
      obtain ⟨zs, hzs⟩ : ∃ zs, zs = wA 64 [] := ⟨_, rfl⟩
      rw [← hzs] at hz ho
      have HCS := Lib.hid hcs
      clear hcs hzs hl
      repeat (first
        | refine wpList_load_row rfl 121 _ rfl (w.heap.size + 1) rfl 121 _ (0, 0) _ hb Try.underlying121 rfl hi ?_
        | refine wpList_store_row rfl 121 _ _ rfl w.heap.size cs rfl rfl 121 _ hz hi ho h1 ?_
        | go_step)
      refine bodyPost_ret (v := .agg cs) (results_cell_row rfl _ _ w.heap.size 121 cs (0, 0) _ rfl (hz.setRow cs) Try.underlying121 rfl hi) rfl ⟨by rw [HCS.out], Fr.setRow hf (.inr (Nat.le_refl _)) cs⟩
end Go.Proofs.Ytgcjbbliaelkcaa
