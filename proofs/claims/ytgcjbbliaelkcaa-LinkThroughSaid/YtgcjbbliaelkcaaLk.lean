/- A link in memory; its small calls. Conditions stand in the statements. -/
import Derived.Test.YtgcjbbliaelkcaaSealWord
import Derived.Test.YtgcjbbliaelkcaaShaPrime
import Derived.Deep.MidRow
import Derived.Laws.Tables
import Derived.Deep.DeepCutAuto
import Derived.StillTailTactics
import Derived.Laws.ResultCell
set_option linter.unusedSimpArgs false
set_option linter.unusedVariables false
namespace Go.Proofs.Ytgcjbbliaelkcaa
open Go.RowKit

/-- What a link holds. -/
structure Lk where
  made : Bool
  key : List UInt8
  down : Bool
  next : Nat
  addr : Int
  heard : Bool
  newest : Nat
  many : Int
  mid : Int
  off : Int
  eis : Bool
  stamp : Int
  eat : Int
def lkT (s : Lk) : List Value := [.bool s.down, .int .u64 (s.next : Int), .int .i64 s.addr, .bool s.heard, .int .u64 (s.newest : Int), .int .i64 s.many, .int .i64 s.mid, .int .i64 s.off, .bool s.eis, .int .i64 s.stamp, .int .i64 s.eat]
def lkC (s : Lk) : List Value := .bool s.made :: (byts s.key ++ lkT s)
theorem lk_tail (s : Lk) (hk : s.key.length = 48) (i : Nat) : (lkC s).toArray[49 + i]? = (lkT s)[i]? := by
  simp only [lkC, List.getElem?_toArray]
  rw [show 49 + i = (48 + i) + 1 by omega, List.getElem?_cons_succ, List.getElem?_append_right (by simp [byts, hk]), show 48 + i - (byts s.key).length = i by simp [byts, hk]]
theorem lk_key (s : Lk) (hk : s.key.length = 48) {j : Nat} {v : Value} (hj : (byts s.key)[j]? = some v) : (lkC s).toArray[1 + j]? = some v := by
  have hl : j < (byts s.key).length := by
    rcases Nat.lt_or_ge j (byts s.key).length with h | h
    · exact h
    · rw [List.getElem?_eq_none h] at hj; cases hj
  simp only [lkC, List.getElem?_toArray]
  rw [show 1 + j = j + 1 by omega, List.getElem?_cons_succ, List.getElem?_append_left hl, hj]
theorem lk_set (s s' : Lk) (hk : s.key.length = 48) (i : Nat) (v : Value) (ht : (lkT s).set i v = lkT s') (h1 : s'.key = s.key) (h2 : s'.made = s.made) : (lkC s).toArray.setIfInBounds (49 + i) v = (lkC s').toArray := by
  simp only [lkC, List.setIfInBounds_toArray, h1, h2]
  rw [show 49 + i = (48 + i) + 1 by omega, List.set_cons_succ, List.set_append_right _ _ (by simp [byts, hk]), show 48 + i - (byts s.key).length = i by simp [byts, hk], ht]
/-- A block holds a link. -/
structure LkV (w : World) (p : Nat) (s : Lk) : Prop where
  blk : Blk w p (lkC s).toArray 64
  len : s.key.length = 48
section
variable {w w' : World} {p : Nat} {s s' : Lk}
theorem LkV.cell (h : LkV w p s) (i : Nat) {v : Value} (hv : (lkT s)[i]? = some v) : w.cell? ⟨p, 49 + i, none⟩ = some v := h.blk.cell _ (by rw [lk_tail s h.len]; exact hv)
theorem LkV.free (h : LkV w p s) (i : Nat) : w.frozen? ⟨p, i, none⟩ = false := h.blk.free _
theorem LkV.cell0 (h : LkV w p s) : w.cell? ⟨p, 0, none⟩ = some (.bool s.made) := h.blk.cell 0 rfl
theorem LkV.keyAt (h : LkV w p s) (j : Nat) (v : Value) (hv : (byts s.key)[j]? = some v) : w.cell? ⟨p, 1 + j, none⟩ = some v := h.blk.cell _ (lk_key s h.len hv)
theorem LkV.put (h : LkV w p s) (i : Nat) (v : Value) (ht : (lkT s).set i v = lkT s') (h1 : s'.key = s.key) (h2 : s'.made = s.made) : LkV (w.setCell ⟨p, 49 + i, none⟩ v) p s' :=
  ⟨by rw [← lk_set s s' h.len i v ht h1 h2]; exact h.blk.set _ _, by rw [h1]; exact h.len⟩
theorem LkV.fr0 (h : LkV w p s) (hf : Fr0 w w') : LkV w' p s := ⟨h.blk.fr0 hf, h.len⟩
theorem LkV.fr1 (h : LkV w p s) {q : Nat} (hf : Fr1 q w w') (hq : p ≠ q) : LkV w' p s := ⟨h.blk.fr1 hf hq, h.len⟩
theorem LkV.fr {S : Nat → Prop} (h : LkV w p s) (hf : Fr S w w') (hq : ¬ S p) : LkV w' p s := ⟨h.blk.fr hf hq, h.len⟩
theorem LkV.drew (h : LkV w p s) : LkV w.drew p s := ⟨h.blk.drew, h.len⟩
theorem LkV.lt (h : LkV w p s) : p < w.heap.size := h.blk.lt
end

theorem place_any (a : Int) (w : World) : Calls Try.prog 25 #[.int .i64 a] w fun e w' => e = .returned (.bool (decide (0 ≤ a ∧ a ≤ 65535))) ∧ w = w' := by
  by_cases h1 : 0 ≤ a
  · have t1 : decide ((0 : Int) ≤ a) = true := decide_eq_true h1
    by_cases h2 : a ≤ 65535
    · have t2 : decide (a ≤ (65535 : Int)) = true := decide_eq_true h2
      rw [decide_eq_true ⟨h1, h2⟩]
      clear h1 h2
      go_enter Try.func25, Try.ntmps25
      go_wp2_with fail
      go_ret
      exact ⟨rfl, rfl⟩
    · have t2 : decide (a ≤ (65535 : Int)) = false := decide_eq_false h2
      rw [decide_eq_false (fun h => h2 h.2)]
      clear h1 h2
      go_enter Try.func25, Try.ntmps25
      go_wp2_with fail
      go_ret
      exact ⟨rfl, rfl⟩
  · have t1 : decide ((0 : Int) ≤ a) = false := decide_eq_false h1
    rw [decide_eq_false (fun h => h1 h.1)]
    clear h1
    go_enter Try.func25, Try.ntmps25
    go_wp2_with fail
    go_ret
    exact ⟨rfl, rfl⟩
theorem time_any (a : Int) (w : World) : Calls Try.prog 27 #[.int .i64 a] w fun e w' => e = .returned (.bool (decide (0 ≤ a ∧ a ≤ 1099511627776))) ∧ w = w' := by
  by_cases h1 : 0 ≤ a
  · have t1 : decide ((0 : Int) ≤ a) = true := decide_eq_true h1
    by_cases h2 : a ≤ 1099511627776
    · have t2 : decide (a ≤ (1099511627776 : Int)) = true := decide_eq_true h2
      rw [decide_eq_true ⟨h1, h2⟩]
      clear h1 h2
      go_enter Try.func27, Try.ntmps27
      go_wp2_with fail
      go_ret
      exact ⟨rfl, rfl⟩
    · have t2 : decide (a ≤ (1099511627776 : Int)) = false := decide_eq_false h2
      rw [decide_eq_false (fun h => h2 h.2)]
      clear h1 h2
      go_enter Try.func27, Try.ntmps27
      go_wp2_with fail
      go_ret
      exact ⟨rfl, rfl⟩
  · have t1 : decide ((0 : Int) ≤ a) = false := decide_eq_false h1
    rw [decide_eq_false (fun h => h1 h.1)]
    clear h1
    go_enter Try.func27, Try.ntmps27
    go_wp2_with fail
    go_ret
    exact ⟨rfl, rfl⟩
theorem lthere_nil (w : World) : Calls Try.prog 26 #[.pointer none] w fun e w' => e = .returned (.bool false) ∧ w = w' := by
  go_enter Try.func26, Try.ntmps26
  go_wp2_with fail
  go_ret
  exact ⟨rfl, rfl⟩
theorem lthere_any {p : Nat} {s : Lk} {w : World} (h : LkV w p s) : Calls Try.prog 26 #[.pointer (some ⟨p, 0, none⟩)] w fun e w' => e = .returned (.bool s.made) ∧ w = w' := by
  have c0 := h.cell0
  clear h
  go_enter Try.func26, Try.ntmps26
  go_wp2_with fail
  go_ret
  exact ⟨rfl, rfl⟩
/-- What stands for the echo. -/
def echoV (s : Lk) (now : Int) : Int := if (s.eis = false ∧ s.stamp = 0 ∧ s.eat = 0) ∨ 1000 < now - s.eat ∨ now < s.eat then 65535 else (s.stamp + now - s.eat) % 65535
theorem echoV_range (s : Lk) (now : Int) : 0 ≤ echoV s now ∧ echoV s now ≤ 65535 := by unfold echoV; split <;> omega
theorem echo_eql (a : Bool) (b c : Int) (W : World) : (binOp .eql 62 (.agg #[.bool a, .int .i64 b, .int .i64 c]) (.agg #[.bool false, .int .i64 0, .int .i64 0])).run Try.prog W = .ok (.bool (decide (a = false ∧ b = 0 ∧ c = 0))) W := by
  go_simp
  by_cases h1 : a = false <;> by_cases h2 : b = 0 <;> by_cases h3 : c = 0 <;> simp [h1, h2, h3]
set_option maxHeartbeats 1000000 in
theorem echoes_any {p : Nat} {s : Lk} {w : World} {now : Int} (h : LkV w p s) (hn : 0 ≤ now ∧ now ≤ 1099511627776) (hs : 0 ≤ s.stamp ∧ s.stamp ≤ 65535) (he : 0 ≤ s.eat ∧ s.eat ≤ 1099511627776) :
    Calls Try.prog 29 #[.pointer (some ⟨p, 0, none⟩), .int .i64 now] w fun e w' => e = .returned (.int .i64 (echoV s now)) ∧ Fr0 w w' := by
  have c57 : w.cell? ⟨p, 57, none⟩ = some (.bool s.eis) := h.cell 8 rfl
  have c58 : w.cell? ⟨p, 58, none⟩ = some (.int .i64 s.stamp) := h.cell 9 rfl
  have c59 : w.cell? ⟨p, 59, none⟩ = some (.int .i64 s.eat) := h.cell 10 rfl
  have q1 : IntKind.i64.wrap (now - s.eat) = now - s.eat := IntWalk.i64_in _ (by omega)
  have q2 : IntKind.i64.wrap (s.stamp + now) = s.stamp + now := IntWalk.i64_in _ (by omega)
  have q3 : IntKind.i64.wrap (s.stamp + now - s.eat) = s.stamp + now - s.eat := IntWalk.i64_in _ (by omega)
  have EQ := fun W => echo_eql s.eis s.stamp s.eat W
  unfold echoV
  by_cases h1 : s.eis = false ∧ s.stamp = 0 ∧ s.eat = 0
  · rw [if_pos (.inl h1)]
    rw [decide_eq_true h1] at EQ
    obtain ⟨a, ha⟩ : ∃ a, a = s.eis := ⟨_, rfl⟩
    obtain ⟨b, hb⟩ : ∃ a, a = s.stamp := ⟨_, rfl⟩
    obtain ⟨c, hc⟩ : ∃ a, a = s.eat := ⟨_, rfl⟩
    rw [← ha, ← hb, ← hc] at EQ
    rw [← ha] at c57
    rw [← hb] at c58
    rw [← hc] at c59
    clear h1 h hn hs he q1 q2 q3 ha hb hc
    go_enter Try.func29, Try.ntmps29
    go_wp2_with fail
    go_ret
    exact ⟨rfl, Fr0.refl w⟩
  rw [decide_eq_false h1] at EQ
  by_cases h2 : 1000 < now - s.eat
  · rw [if_pos (.inr (.inl h2))]
    have t2 : decide ((1000 : Int) < now - s.eat) = true := decide_eq_true h2
    obtain ⟨a, ha⟩ : ∃ a, a = s.eis := ⟨_, rfl⟩
    obtain ⟨b, hb⟩ : ∃ a, a = s.stamp := ⟨_, rfl⟩
    obtain ⟨c, hc⟩ : ∃ a, a = s.eat := ⟨_, rfl⟩
    rw [← ha, ← hb, ← hc] at EQ
    rw [← ha] at c57
    rw [← hb] at c58
    rw [← hc] at c59 q1 t2
    clear h1 h2 h hn hs he q2 q3 ha hb hc
    go_enter Try.func29, Try.ntmps29
    go_wp2_with fail
    go_ret
    exact ⟨rfl, Fr0.refl w⟩
  have t2 : decide ((1000 : Int) < now - s.eat) = false := decide_eq_false h2
  by_cases h3 : now < s.eat
  · rw [if_pos (.inr (.inr h3))]
    have t3 : decide (now < s.eat) = true := decide_eq_true h3
    obtain ⟨a, ha⟩ : ∃ a, a = s.eis := ⟨_, rfl⟩
    obtain ⟨b, hb⟩ : ∃ a, a = s.stamp := ⟨_, rfl⟩
    obtain ⟨c, hc⟩ : ∃ a, a = s.eat := ⟨_, rfl⟩
    rw [← ha, ← hb, ← hc] at EQ
    rw [← ha] at c57
    rw [← hb] at c58
    rw [← hc] at c59 q1 t2 t3
    clear h1 h2 h3 h hn hs he q2 q3 ha hb hc
    go_enter Try.func29, Try.ntmps29
    go_wp2_with fail
    go_ret
    exact ⟨rfl, Fr0.refl w⟩
  have t3 : decide (now < s.eat) = false := decide_eq_false h3
  rw [if_neg (fun h => h.elim h1 (fun h => h.elim h2 h3))]
  have q4 : (s.stamp + now - s.eat).tmod 65535 = (s.stamp + now - s.eat) % 65535 := Int.tmod_eq_emod_of_nonneg (by omega)
  obtain ⟨a, ha⟩ : ∃ a, a = s.eis := ⟨_, rfl⟩
  obtain ⟨b, hb⟩ : ∃ a, a = s.stamp := ⟨_, rfl⟩
  obtain ⟨c, hc⟩ : ∃ a, a = s.eat := ⟨_, rfl⟩
  rw [← ha, ← hb, ← hc] at EQ
  rw [← ha] at c57
  rw [← hb, ← hc] at q3 q4 ⊢
  rw [← hb] at c58 q2
  rw [← hc] at c59 q1 t2 t3
  have q5 : IntKind.i64.wrap ((b + now - c) % 65535) = (b + now - c) % 65535 := IntWalk.i64_in _ (by omega)
  clear h1 h2 h3 h hn hs he ha hb hc
  go_enter Try.func29, Try.ntmps29
  go_upto_region 3 with (fail)
  go_quiet (fail)
  go_wp2_with fail
  go_ret
  exact ⟨rfl, (Fr0.refl w).drewN _⟩
end Go.Proofs.Ytgcjbbliaelkcaa
