/- Hashes in memory: New, wake. Conditions stand in the statements. -/
import Derived.Test.YtgcjbbliaelkcaaShaTake
import Derived.Test.YtgcjbbliaelkcaaShaBlk0
import Derived.Test.YtgcjbbliaelkcaaSl
import Derived.Outline
set_option linter.unusedSimpArgs false
namespace Go.Proofs.Ytgcjbbliaelkcaa
open Go.RowKit

def hpre (x : H8) : List Value := (h8c x).toList ++ wcells turnL
def hashC (x : H8) (v : Value) (n : Int) : Array Value := (hpre x ++ [v, .int .i64 n]).toArray
theorem hpre_len (x : H8) : (hpre x).length = 72 := by simp [hpre, h8c, wcells, turnL_len]
theorem hash_size (x : H8) (v : Value) (n : Int) : (hashC x v n).size = 74 := by simp [hashC, hpre_len]
theorem hash_built : Try.prog.built 124 [(0, .agg (wA 8 startL)), (1, .agg (wA 64 turnL))] = some (hashC startH (.slice none 0 0) 0) := by kernel_rfl
theorem hash_72 (x : H8) (v : Value) (n : Int) : (hashC x v n)[72]? = some v := by simp [hashC, List.getElem?_append_right, hpre_len]
theorem hash_73 (x : H8) (v : Value) (n : Int) : (hashC x v n)[73]? = some (.int .i64 n) := by simp [hashC, List.getElem?_append_right, hpre_len]
theorem hash_x (x : H8) (v : Value) (n : Int) {i : Nat} (hi : i < 8) : (hashC x v n)[i]? = (h8c x)[i]? := by
  have : i < (h8c x).toList.length := by simp [h8c]; omega
  rw [hashC, List.getElem?_toArray, List.getElem?_append_left (by rw [hpre_len]; omega), hpre, List.getElem?_append_left this, Array.getElem?_toList]
theorem hash_k (x : H8) (v : Value) (n : Int) {i : Nat} (hi : i < 64) : (hashC x v n)[8 + i]? = some (.int .u32 (turnL.getD i 0 : Nat)) := by
  have h8 : (h8c x).toList.length = 8 := rfl
  rw [hashC, List.getElem?_toArray, List.getElem?_append_left (by rw [hpre_len]; omega), hpre, List.getElem?_append_right (by omega), h8, show 8 + i - 8 = i by omega, wcells, List.getElem?_map,
    show turnL[i]? = some (turnL.getD i 0) from by simp [List.getD, turnL_len, hi]]
  rfl
theorem hash_set72 (x : H8) (v v' : Value) (n : Int) : (hashC x v n).setIfInBounds 72 v' = hashC x v' n := by
  unfold hashC
  rw [List.setIfInBounds_toArray, List.set_append_right _ _ (by rw [hpre_len]; omega), hpre_len]
  rfl
theorem hash_set73 (x : H8) (v : Value) (n n' : Int) : (hashC x v n).setIfInBounds 73 (.int .i64 n') = hashC x v n' := by
  unfold hashC
  rw [List.setIfInBounds_toArray, List.set_append_right _ _ (by rw [hpre_len]; omega), hpre_len]
  rfl
theorem hash_setX (x y : H8) (v : Value) (n : Int) : putAt (hashC x v n) 0 (h8c y).toList = hashC y v n := by
  obtain ⟨xa, xb, xc, xd, xe, xf, xg, xh⟩ := x
  obtain ⟨ya, yb, yc, yd, ye, yf, yg, yh⟩ := y
  simp only [hashC, hpre, h8c, putAt, List.cons_append, List.nil_append, List.setIfInBounds_toArray, List.set_cons_zero, List.set_cons_succ]
theorem hash_one (x : H8) {v : Value} (hv : v.oneCell' = true) (n : Int) : (hashC x v n).all (·.oneCell') = true := by
  rw [Array.all_eq_true_iff_forall_mem]
  intro u hu
  simp only [hashC, hpre, List.mem_toArray, List.mem_append, wcells] at hu
  rcases hu with (hu | hu) | hu
  · exact Array.all_eq_true_iff_forall_mem.1 (h8_one x) u (by simpa using hu)
  · obtain ⟨y, _, rfl⟩ := List.mem_map.1 hu; rfl
  · simp only [List.mem_cons, List.not_mem_nil, or_false] at hu
    rcases hu with rfl | rfl
    · exact hv
    · rfl

/-- What has been taken in of bytes: the words, and what waits. -/
def hX (all : List UInt8) : H8 := blocksN startH all turnL (all.length / 64)
def hRest (all : List UInt8) : List UInt8 := all.drop (all.length / 64 * 64)
/-- A hash in memory. -/
structure HashR (base : Nat) (w : World) (p : Nat) (v : Value) (x : H8) (rest : List UInt8) (n : Int) : Prop where
  blk : Blk w p (hashC x v n) 124
  sl : SlO base w v rest
  lo : base ≤ p
def HashV (base : Nat) (w : World) (p : Nat) (v : Value) (all : List UInt8) : Prop := HashR base w p v (hX all) (hRest all) all.length
/-- The blocks of a hash. -/
def hOwn (p : Nat) (v : Value) (k : Nat) : Prop := k = p ∨ inBlk v k
section
variable {base : Nat} {w w' : World} {p : Nat} {v : Value} {x : H8} {rest all : List UInt8} {n : Int} {S : Nat → Prop}
theorem HashR.fr (h : HashR base w p v x rest n) (hf : Fr S w w') (hs : ∀ k, hOwn p v k → ¬ S k) : HashR base w' p v x rest n :=
  ⟨h.blk.fr hf (hs p (.inl rfl)), h.sl.fr hf (fun k hk => hs k (.inr hk)), h.lo⟩
theorem HashR.fr0 (h : HashR base w p v x rest n) (hf : Fr0 w w') : HashR base w' p v x rest n := h.fr hf (fun _ _ h => h)
theorem HashV.fr (h : HashV base w p v all) (hf : Fr S w w') (hs : ∀ k, hOwn p v k → ¬ S k) : HashV base w' p v all := HashR.fr h hf hs
theorem HashV.fr0 (h : HashV base w p v all) (hf : Fr0 w w') : HashV base w' p v all := HashR.fr0 h hf
theorem HashR.own_lo (h : HashR base w p v x rest n) : ∀ k, hOwn p v k → base ≤ k ∧ k < w.heap.size := fun k hk => by
  rcases hk with rfl | hk
  · exact ⟨h.lo, h.blk.lt⟩
  · exact h.sl.lo k hk
end

set_option maxHeartbeats 1000000 in
set_option maxRecDepth 10000 in
theorem hnew_any (w : World) : Calls Try.prog 47 #[] w fun e w' => ∃ p : Nat, e = .returned (.pointer (some ⟨p, 0, none⟩)) ∧ HashV w.heap.size w' p (.slice none 0 0) [] ∧ Fr0 w w' := by
  have HT := Lib.hid (fun W => turns_any W)
  have HS := Lib.hid (fun W => starts_any W)
  have HBU := hash_built
  obtain ⟨ks, hks⟩ : ∃ ks, ks = wA 64 turnL := ⟨_, rfl⟩
  obtain ⟨ss, hss⟩ : ∃ ss, ss = wA 8 startL := ⟨_, rfl⟩
  obtain ⟨hc, hhc⟩ : ∃ hc, hc = hashC startH (.slice none 0 0) 0 := ⟨_, rfl⟩
  rw [← hks] at HT HBU
  rw [← hss] at HS HBU
  rw [← hhc] at HBU
  have HHC := Lib.hid hhc
  have HB := Lib.hid HBU
  clear hks hss hhc HBU
  go_enter Try.func47, Try.ntmps47
  go_wp2_with (first
    | (go_at_call 59; refine (HS.out _).mono ?_; rintro e w1 ⟨rfl, hf⟩; have F1 := Lib.hid hf; clear hf)
    | (go_at_call 60; refine (HT.out _).mono ?_; rintro e w2 ⟨rfl, hf⟩; have F2 := Lib.hid (Fr0.trans F1.out hf); clear hf)
    | (refine list_build rfl 124 _ rfl hc (by simp [Act.eval, Act.put]; exact HB.out) ?_))
  go_ret
  refine ⟨w2.heap.size, rfl, ⟨?_, SlO.nil _ _, (F2.out).size⟩, (F2.out).alloc _⟩
  have hz : hX [] = startH := rfl
  rw [hz]
  rw [HHC.out]
  exact Blk.new w2 _ 124
end Go.Proofs.Ytgcjbbliaelkcaa
