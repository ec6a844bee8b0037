/- Contracts of package instr (May) and of the reference's May. Conditions stand in each statement. -/
import Derived.Test.YtkgjmfmnkcfabaaRows
import Derived.Test.YtkgjmfmnkcfabaaBase
import Derived.WalkKit
import Derived.WalkSpells
import Derived.BigQuiet
import Derived.Deep.QuietTactic
import Derived.Lib.Hide
import Derived.Handy
import Derived.KernelRfl
namespace Go.Proofs.Ytkgjmfmnkcfabaa
open Go.RowKit

/-- May a number be one? -/
def okn (n : Int) : Prop := 0 ≤ n ∧ n ≤ 1099511627776
instance (n : Int) : Decidable (okn n) := by unfold okn; exact inferInstance
/-- What stands against an instruction. -/
def may (old new ack trash : Int) (len : Nat) : Int :=
  if ¬ (okn old ∧ okn new ∧ okn ack ∧ okn trash) then 2
  else if new < old ∨ trash > old ∨ (new = old ∧ 0 < len) then 2
  else if 65496 < len then 3 else 0

theorem nok {n : Int} (h : ¬ okn n) : n < 0 ∨ (¬ n < 0 ∧ 1099511627776 < n) := by unfold okn at h; omega

set_option maxHeartbeats 400000 in
theorem may_bad0l (old new ack trash : Int) (A : Option Addr) (n c : Nat) (w : World)  (h : old < 0) :
    Calls Try.prog 12 #[.agg #[.int .i64 old, .int .i64 new, .int .i64 ack, .int .i64 trash, .slice A n c]] w fun e w' => e = .returned (.int .i64 2) ∧ Fr0 w w' := by
  have i0 : ∀ (a b c d : Int) (w : World), (Instr.index 50 (.agg #[.int .i64 a, .int .i64 b, .int .i64 c, .int .i64 d]) (.int .i64 0)).run Try.prog w = .ok (.int .i64 a) w := fun _ _ _ _ _ => by kernel_rfl
  have i1 : ∀ (a b c d : Int) (w : World), (Instr.index 50 (.agg #[.int .i64 a, .int .i64 b, .int .i64 c, .int .i64 d]) (.int .i64 1)).run Try.prog w = .ok (.int .i64 b) w := fun _ _ _ _ _ => by kernel_rfl
  have i2 : ∀ (a b c d : Int) (w : World), (Instr.index 50 (.agg #[.int .i64 a, .int .i64 b, .int .i64 c, .int .i64 d]) (.int .i64 2)).run Try.prog w = .ok (.int .i64 c) w := fun _ _ _ _ _ => by kernel_rfl
  have i3 : ∀ (a b c d : Int) (w : World), (Instr.index 50 (.agg #[.int .i64 a, .int .i64 b, .int .i64 c, .int .i64 d]) (.int .i64 3)).run Try.prog w = .ok (.int .i64 d) w := fun _ _ _ _ _ => by kernel_rfl
  go_enter Try.func12, Try.ntmps12
  go_wp2
  go_rounds 5
  all_goals (go_ret; exact ⟨rfl, by repeat (first | exact Fr0.refl _ | refine Fr.drew ?_ | refine Fr.alloc ?_ _)⟩)
set_option maxHeartbeats 400000 in
theorem may_bad0h (old new ack trash : Int) (A : Option Addr) (n c : Nat) (w : World)  (h : ¬ old < 0) (h' : 1099511627776 < old) :
    Calls Try.prog 12 #[.agg #[.int .i64 old, .int .i64 new, .int .i64 ack, .int .i64 trash, .slice A n c]] w fun e w' => e = .returned (.int .i64 2) ∧ Fr0 w w' := by
  have i0 : ∀ (a b c d : Int) (w : World), (Instr.index 50 (.agg #[.int .i64 a, .int .i64 b, .int .i64 c, .int .i64 d]) (.int .i64 0)).run Try.prog w = .ok (.int .i64 a) w := fun _ _ _ _ _ => by kernel_rfl
  have i1 : ∀ (a b c d : Int) (w : World), (Instr.index 50 (.agg #[.int .i64 a, .int .i64 b, .int .i64 c, .int .i64 d]) (.int .i64 1)).run Try.prog w = .ok (.int .i64 b) w := fun _ _ _ _ _ => by kernel_rfl
  have i2 : ∀ (a b c d : Int) (w : World), (Instr.index 50 (.agg #[.int .i64 a, .int .i64 b, .int .i64 c, .int .i64 d]) (.int .i64 2)).run Try.prog w = .ok (.int .i64 c) w := fun _ _ _ _ _ => by kernel_rfl
  have i3 : ∀ (a b c d : Int) (w : World), (Instr.index 50 (.agg #[.int .i64 a, .int .i64 b, .int .i64 c, .int .i64 d]) (.int .i64 3)).run Try.prog w = .ok (.int .i64 d) w := fun _ _ _ _ _ => by kernel_rfl
  go_enter Try.func12, Try.ntmps12
  go_wp2
  go_rounds 5
  all_goals (go_ret; exact ⟨rfl, by repeat (first | exact Fr0.refl _ | refine Fr.drew ?_ | refine Fr.alloc ?_ _)⟩)
set_option maxHeartbeats 400000 in
theorem may_bad1l (old new ack trash : Int) (A : Option Addr) (n c : Nat) (w : World) (l0 : ¬ old < 0) (u0 : ¬ 1099511627776 < old) (h : new < 0) :
    Calls Try.prog 12 #[.agg #[.int .i64 old, .int .i64 new, .int .i64 ack, .int .i64 trash, .slice A n c]] w fun e w' => e = .returned (.int .i64 2) ∧ Fr0 w w' := by
  have i0 : ∀ (a b c d : Int) (w : World), (Instr.index 50 (.agg #[.int .i64 a, .int .i64 b, .int .i64 c, .int .i64 d]) (.int .i64 0)).run Try.prog w = .ok (.int .i64 a) w := fun _ _ _ _ _ => by kernel_rfl
  have i1 : ∀ (a b c d : Int) (w : World), (Instr.index 50 (.agg #[.int .i64 a, .int .i64 b, .int .i64 c, .int .i64 d]) (.int .i64 1)).run Try.prog w = .ok (.int .i64 b) w := fun _ _ _ _ _ => by kernel_rfl
  have i2 : ∀ (a b c d : Int) (w : World), (Instr.index 50 (.agg #[.int .i64 a, .int .i64 b, .int .i64 c, .int .i64 d]) (.int .i64 2)).run Try.prog w = .ok (.int .i64 c) w := fun _ _ _ _ _ => by kernel_rfl
  have i3 : ∀ (a b c d : Int) (w : World), (Instr.index 50 (.agg #[.int .i64 a, .int .i64 b, .int .i64 c, .int .i64 d]) (.int .i64 3)).run Try.prog w = .ok (.int .i64 d) w := fun _ _ _ _ _ => by kernel_rfl
  go_enter Try.func12, Try.ntmps12
  go_wp2
  go_rounds 5
  all_goals (go_ret; exact ⟨rfl, by repeat (first | exact Fr0.refl _ | refine Fr.drew ?_ | refine Fr.alloc ?_ _)⟩)
set_option maxHeartbeats 400000 in
theorem may_bad1h (old new ack trash : Int) (A : Option Addr) (n c : Nat) (w : World) (l0 : ¬ old < 0) (u0 : ¬ 1099511627776 < old) (h : ¬ new < 0) (h' : 1099511627776 < new) :
    Calls Try.prog 12 #[.agg #[.int .i64 old, .int .i64 new, .int .i64 ack, .int .i64 trash, .slice A n c]] w fun e w' => e = .returned (.int .i64 2) ∧ Fr0 w w' := by
  have i0 : ∀ (a b c d : Int) (w : World), (Instr.index 50 (.agg #[.int .i64 a, .int .i64 b, .int .i64 c, .int .i64 d]) (.int .i64 0)).run Try.prog w = .ok (.int .i64 a) w := fun _ _ _ _ _ => by kernel_rfl
  have i1 : ∀ (a b c d : Int) (w : World), (Instr.index 50 (.agg #[.int .i64 a, .int .i64 b, .int .i64 c, .int .i64 d]) (.int .i64 1)).run Try.prog w = .ok (.int .i64 b) w := fun _ _ _ _ _ => by kernel_rfl
  have i2 : ∀ (a b c d : Int) (w : World), (Instr.index 50 (.agg #[.int .i64 a, .int .i64 b, .int .i64 c, .int .i64 d]) (.int .i64 2)).run Try.prog w = .ok (.int .i64 c) w := fun _ _ _ _ _ => by kernel_rfl
  have i3 : ∀ (a b c d : Int) (w : World), (Instr.index 50 (.agg #[.int .i64 a, .int .i64 b, .int .i64 c, .int .i64 d]) (.int .i64 3)).run Try.prog w = .ok (.int .i64 d) w := fun _ _ _ _ _ => by kernel_rfl
  go_enter Try.func12, Try.ntmps12
  go_wp2
  go_rounds 5
  all_goals (go_ret; exact ⟨rfl, by repeat (first | exact Fr0.refl _ | refine Fr.drew ?_ | refine Fr.alloc ?_ _)⟩)
set_option maxHeartbeats 400000 in
theorem may_bad2l (old new ack trash : Int) (A : Option Addr) (n c : Nat) (w : World) (l0 : ¬ old < 0) (u0 : ¬ 1099511627776 < old) (l1 : ¬ new < 0) (u1 : ¬ 1099511627776 < new) (h : ack < 0) :
    Calls Try.prog 12 #[.agg #[.int .i64 old, .int .i64 new, .int .i64 ack, .int .i64 trash, .slice A n c]] w fun e w' => e = .returned (.int .i64 2) ∧ Fr0 w w' := by
  have i0 : ∀ (a b c d : Int) (w : World), (Instr.index 50 (.agg #[.int .i64 a, .int .i64 b, .int .i64 c, .int .i64 d]) (.int .i64 0)).run Try.prog w = .ok (.int .i64 a) w := fun _ _ _ _ _ => by kernel_rfl
  have i1 : ∀ (a b c d : Int) (w : World), (Instr.index 50 (.agg #[.int .i64 a, .int .i64 b, .int .i64 c, .int .i64 d]) (.int .i64 1)).run Try.prog w = .ok (.int .i64 b) w := fun _ _ _ _ _ => by kernel_rfl
  have i2 : ∀ (a b c d : Int) (w : World), (Instr.index 50 (.agg #[.int .i64 a, .int .i64 b, .int .i64 c, .int .i64 d]) (.int .i64 2)).run Try.prog w = .ok (.int .i64 c) w := fun _ _ _ _ _ => by kernel_rfl
  have i3 : ∀ (a b c d : Int) (w : World), (Instr.index 50 (.agg #[.int .i64 a, .int .i64 b, .int .i64 c, .int .i64 d]) (.int .i64 3)).run Try.prog w = .ok (.int .i64 d) w := fun _ _ _ _ _ => by kernel_rfl
  go_enter Try.func12, Try.ntmps12
  go_wp2
  go_rounds 5
  all_goals (go_ret; exact ⟨rfl, by repeat (first | exact Fr0.refl _ | refine Fr.drew ?_ | refine Fr.alloc ?_ _)⟩)
set_option maxHeartbeats 400000 in
theorem may_bad2h (old new ack trash : Int) (A : Option Addr) (n c : Nat) (w : World) (l0 : ¬ old < 0) (u0 : ¬ 1099511627776 < old) (l1 : ¬ new < 0) (u1 : ¬ 1099511627776 < new) (h : ¬ ack < 0) (h' : 1099511627776 < ack) :
    Calls Try.prog 12 #[.agg #[.int .i64 old, .int .i64 new, .int .i64 ack, .int .i64 trash, .slice A n c]] w fun e w' => e = .returned (.int .i64 2) ∧ Fr0 w w' := by
  have i0 : ∀ (a b c d : Int) (w : World), (Instr.index 50 (.agg #[.int .i64 a, .int .i64 b, .int .i64 c, .int .i64 d]) (.int .i64 0)).run Try.prog w = .ok (.int .i64 a) w := fun _ _ _ _ _ => by kernel_rfl
  have i1 : ∀ (a b c d : Int) (w : World), (Instr.index 50 (.agg #[.int .i64 a, .int .i64 b, .int .i64 c, .int .i64 d]) (.int .i64 1)).run Try.prog w = .ok (.int .i64 b) w := fun _ _ _ _ _ => by kernel_rfl
  have i2 : ∀ (a b c d : Int) (w : World), (Instr.index 50 (.agg #[.int .i64 a, .int .i64 b, .int .i64 c, .int .i64 d]) (.int .i64 2)).run Try.prog w = .ok (.int .i64 c) w := fun _ _ _ _ _ => by kernel_rfl
  have i3 : ∀ (a b c d : Int) (w : World), (Instr.index 50 (.agg #[.int .i64 a, .int .i64 b, .int .i64 c, .int .i64 d]) (.int .i64 3)).run Try.prog w = .ok (.int .i64 d) w := fun _ _ _ _ _ => by kernel_rfl
  go_enter Try.func12, Try.ntmps12
  go_wp2
  go_rounds 5
  all_goals (go_ret; exact ⟨rfl, by repeat (first | exact Fr0.refl _ | refine Fr.drew ?_ | refine Fr.alloc ?_ _)⟩)
set_option maxHeartbeats 400000 in
theorem may_bad3l (old new ack trash : Int) (A : Option Addr) (n c : Nat) (w : World) (l0 : ¬ old < 0) (u0 : ¬ 1099511627776 < old) (l1 : ¬ new < 0) (u1 : ¬ 1099511627776 < new) (l2 : ¬ ack < 0) (u2 : ¬ 1099511627776 < ack) (h : trash < 0) :
    Calls Try.prog 12 #[.agg #[.int .i64 old, .int .i64 new, .int .i64 ack, .int .i64 trash, .slice A n c]] w fun e w' => e = .returned (.int .i64 2) ∧ Fr0 w w' := by
  have i0 : ∀ (a b c d : Int) (w : World), (Instr.index 50 (.agg #[.int .i64 a, .int .i64 b, .int .i64 c, .int .i64 d]) (.int .i64 0)).run Try.prog w = .ok (.int .i64 a) w := fun _ _ _ _ _ => by kernel_rfl
  have i1 : ∀ (a b c d : Int) (w : World), (Instr.index 50 (.agg #[.int .i64 a, .int .i64 b, .int .i64 c, .int .i64 d]) (.int .i64 1)).run Try.prog w = .ok (.int .i64 b) w := fun _ _ _ _ _ => by kernel_rfl
  have i2 : ∀ (a b c d : Int) (w : World), (Instr.index 50 (.agg #[.int .i64 a, .int .i64 b, .int .i64 c, .int .i64 d]) (.int .i64 2)).run Try.prog w = .ok (.int .i64 c) w := fun _ _ _ _ _ => by kernel_rfl
  have i3 : ∀ (a b c d : Int) (w : World), (Instr.index 50 (.agg #[.int .i64 a, .int .i64 b, .int .i64 c, .int .i64 d]) (.int .i64 3)).run Try.prog w = .ok (.int .i64 d) w := fun _ _ _ _ _ => by kernel_rfl
  go_enter Try.func12, Try.ntmps12
  go_wp2
  go_rounds 5
  all_goals (go_ret; exact ⟨rfl, by repeat (first | exact Fr0.refl _ | refine Fr.drew ?_ | refine Fr.alloc ?_ _)⟩)
set_option maxHeartbeats 400000 in
theorem may_bad3h (old new ack trash : Int) (A : Option Addr) (n c : Nat) (w : World) (l0 : ¬ old < 0) (u0 : ¬ 1099511627776 < old) (l1 : ¬ new < 0) (u1 : ¬ 1099511627776 < new) (l2 : ¬ ack < 0) (u2 : ¬ 1099511627776 < ack) (h : ¬ trash < 0) (h' : 1099511627776 < trash) :
    Calls Try.prog 12 #[.agg #[.int .i64 old, .int .i64 new, .int .i64 ack, .int .i64 trash, .slice A n c]] w fun e w' => e = .returned (.int .i64 2) ∧ Fr0 w w' := by
  have i0 : ∀ (a b c d : Int) (w : World), (Instr.index 50 (.agg #[.int .i64 a, .int .i64 b, .int .i64 c, .int .i64 d]) (.int .i64 0)).run Try.prog w = .ok (.int .i64 a) w := fun _ _ _ _ _ => by kernel_rfl
  have i1 : ∀ (a b c d : Int) (w : World), (Instr.index 50 (.agg #[.int .i64 a, .int .i64 b, .int .i64 c, .int .i64 d]) (.int .i64 1)).run Try.prog w = .ok (.int .i64 b) w := fun _ _ _ _ _ => by kernel_rfl
  have i2 : ∀ (a b c d : Int) (w : World), (Instr.index 50 (.agg #[.int .i64 a, .int .i64 b, .int .i64 c, .int .i64 d]) (.int .i64 2)).run Try.prog w = .ok (.int .i64 c) w := fun _ _ _ _ _ => by kernel_rfl
  have i3 : ∀ (a b c d : Int) (w : World), (Instr.index 50 (.agg #[.int .i64 a, .int .i64 b, .int .i64 c, .int .i64 d]) (.int .i64 3)).run Try.prog w = .ok (.int .i64 d) w := fun _ _ _ _ _ => by kernel_rfl
  go_enter Try.func12, Try.ntmps12
  go_wp2
  go_rounds 5
  all_goals (go_ret; exact ⟨rfl, by repeat (first | exact Fr0.refl _ | refine Fr.drew ?_ | refine Fr.alloc ?_ _)⟩)
set_option maxHeartbeats 400000 in
theorem may_good0 (old new ack trash : Int) (A : Option Addr) (n c : Nat) (w : World) (l0 : ¬ old < 0) (u0 : ¬ 1099511627776 < old) (l1 : ¬ new < 0) (u1 : ¬ 1099511627776 < new) (l2 : ¬ ack < 0) (u2 : ¬ 1099511627776 < ack) (l3 : ¬ trash < 0) (u3 : ¬ 1099511627776 < trash) (h1 : new < old) :
    Calls Try.prog 12 #[.agg #[.int .i64 old, .int .i64 new, .int .i64 ack, .int .i64 trash, .slice A n c]] w fun e w' => e = .returned (.int .i64 2) ∧ Fr0 w w' := by
  have i0 : ∀ (a b c d : Int) (w : World), (Instr.index 50 (.agg #[.int .i64 a, .int .i64 b, .int .i64 c, .int .i64 d]) (.int .i64 0)).run Try.prog w = .ok (.int .i64 a) w := fun _ _ _ _ _ => by kernel_rfl
  have i1 : ∀ (a b c d : Int) (w : World), (Instr.index 50 (.agg #[.int .i64 a, .int .i64 b, .int .i64 c, .int .i64 d]) (.int .i64 1)).run Try.prog w = .ok (.int .i64 b) w := fun _ _ _ _ _ => by kernel_rfl
  have i2 : ∀ (a b c d : Int) (w : World), (Instr.index 50 (.agg #[.int .i64 a, .int .i64 b, .int .i64 c, .int .i64 d]) (.int .i64 2)).run Try.prog w = .ok (.int .i64 c) w := fun _ _ _ _ _ => by kernel_rfl
  have i3 : ∀ (a b c d : Int) (w : World), (Instr.index 50 (.agg #[.int .i64 a, .int .i64 b, .int .i64 c, .int .i64 d]) (.int .i64 3)).run Try.prog w = .ok (.int .i64 d) w := fun _ _ _ _ _ => by kernel_rfl
  go_enter Try.func12, Try.ntmps12
  go_wp2
  go_rounds 5
  all_goals (go_ret; exact ⟨rfl, by repeat (first | exact Fr0.refl _ | refine Fr.drew ?_ | refine Fr.alloc ?_ _)⟩)
set_option maxHeartbeats 400000 in
theorem may_good1 (old new ack trash : Int) (A : Option Addr) (n c : Nat) (w : World) (l0 : ¬ old < 0) (u0 : ¬ 1099511627776 < old) (l1 : ¬ new < 0) (u1 : ¬ 1099511627776 < new) (l2 : ¬ ack < 0) (u2 : ¬ 1099511627776 < ack) (l3 : ¬ trash < 0) (u3 : ¬ 1099511627776 < trash) (h1 : ¬ new < old) (h2 : old < trash) :
    Calls Try.prog 12 #[.agg #[.int .i64 old, .int .i64 new, .int .i64 ack, .int .i64 trash, .slice A n c]] w fun e w' => e = .returned (.int .i64 2) ∧ Fr0 w w' := by
  have i0 : ∀ (a b c d : Int) (w : World), (Instr.index 50 (.agg #[.int .i64 a, .int .i64 b, .int .i64 c, .int .i64 d]) (.int .i64 0)).run Try.prog w = .ok (.int .i64 a) w := fun _ _ _ _ _ => by kernel_rfl
  have i1 : ∀ (a b c d : Int) (w : World), (Instr.index 50 (.agg #[.int .i64 a, .int .i64 b, .int .i64 c, .int .i64 d]) (.int .i64 1)).run Try.prog w = .ok (.int .i64 b) w := fun _ _ _ _ _ => by kernel_rfl
  have i2 : ∀ (a b c d : Int) (w : World), (Instr.index 50 (.agg #[.int .i64 a, .int .i64 b, .int .i64 c, .int .i64 d]) (.int .i64 2)).run Try.prog w = .ok (.int .i64 c) w := fun _ _ _ _ _ => by kernel_rfl
  have i3 : ∀ (a b c d : Int) (w : World), (Instr.index 50 (.agg #[.int .i64 a, .int .i64 b, .int .i64 c, .int .i64 d]) (.int .i64 3)).run Try.prog w = .ok (.int .i64 d) w := fun _ _ _ _ _ => by kernel_rfl
  go_enter Try.func12, Try.ntmps12
  go_wp2
  go_rounds 5
  all_goals (go_ret; exact ⟨rfl, by repeat (first | exact Fr0.refl _ | refine Fr.drew ?_ | refine Fr.alloc ?_ _)⟩)
set_option maxHeartbeats 400000 in
theorem may_good2 (old new ack trash : Int) (A : Option Addr) (n c : Nat) (w : World) (l0 : ¬ old < 0) (u0 : ¬ 1099511627776 < old) (l1 : ¬ new < 0) (u1 : ¬ 1099511627776 < new) (l2 : ¬ ack < 0) (u2 : ¬ 1099511627776 < ack) (l3 : ¬ trash < 0) (u3 : ¬ 1099511627776 < trash) (h1 : ¬ new < old) (h2 : ¬ old < trash) (h3 : (new == old) = true) (h4 : 0 < n) :
    Calls Try.prog 12 #[.agg #[.int .i64 old, .int .i64 new, .int .i64 ack, .int .i64 trash, .slice A n c]] w fun e w' => e = .returned (.int .i64 2) ∧ Fr0 w w' := by
  have i0 : ∀ (a b c d : Int) (w : World), (Instr.index 50 (.agg #[.int .i64 a, .int .i64 b, .int .i64 c, .int .i64 d]) (.int .i64 0)).run Try.prog w = .ok (.int .i64 a) w := fun _ _ _ _ _ => by kernel_rfl
  have i1 : ∀ (a b c d : Int) (w : World), (Instr.index 50 (.agg #[.int .i64 a, .int .i64 b, .int .i64 c, .int .i64 d]) (.int .i64 1)).run Try.prog w = .ok (.int .i64 b) w := fun _ _ _ _ _ => by kernel_rfl
  have i2 : ∀ (a b c d : Int) (w : World), (Instr.index 50 (.agg #[.int .i64 a, .int .i64 b, .int .i64 c, .int .i64 d]) (.int .i64 2)).run Try.prog w = .ok (.int .i64 c) w := fun _ _ _ _ _ => by kernel_rfl
  have i3 : ∀ (a b c d : Int) (w : World), (Instr.index 50 (.agg #[.int .i64 a, .int .i64 b, .int .i64 c, .int .i64 d]) (.int .i64 3)).run Try.prog w = .ok (.int .i64 d) w := fun _ _ _ _ _ => by kernel_rfl
  go_enter Try.func12, Try.ntmps12
  go_wp2
  go_rounds 5
  all_goals (go_ret; exact ⟨rfl, by repeat (first | exact Fr0.refl _ | refine Fr.drew ?_ | refine Fr.alloc ?_ _)⟩)
set_option maxHeartbeats 400000 in
theorem may_good3 (old new ack trash : Int) (A : Option Addr) (n c : Nat) (w : World) (l0 : ¬ old < 0) (u0 : ¬ 1099511627776 < old) (l1 : ¬ new < 0) (u1 : ¬ 1099511627776 < new) (l2 : ¬ ack < 0) (u2 : ¬ 1099511627776 < ack) (l3 : ¬ trash < 0) (u3 : ¬ 1099511627776 < trash) (h1 : ¬ new < old) (h2 : ¬ old < trash) (h3 : (new == old) = true) (h4 : ¬ 0 < n) :
    Calls Try.prog 12 #[.agg #[.int .i64 old, .int .i64 new, .int .i64 ack, .int .i64 trash, .slice A n c]] w fun e w' => e = .returned (.int .i64 0) ∧ Fr0 w w' := by
  have i0 : ∀ (a b c d : Int) (w : World), (Instr.index 50 (.agg #[.int .i64 a, .int .i64 b, .int .i64 c, .int .i64 d]) (.int .i64 0)).run Try.prog w = .ok (.int .i64 a) w := fun _ _ _ _ _ => by kernel_rfl
  have i1 : ∀ (a b c d : Int) (w : World), (Instr.index 50 (.agg #[.int .i64 a, .int .i64 b, .int .i64 c, .int .i64 d]) (.int .i64 1)).run Try.prog w = .ok (.int .i64 b) w := fun _ _ _ _ _ => by kernel_rfl
  have i2 : ∀ (a b c d : Int) (w : World), (Instr.index 50 (.agg #[.int .i64 a, .int .i64 b, .int .i64 c, .int .i64 d]) (.int .i64 2)).run Try.prog w = .ok (.int .i64 c) w := fun _ _ _ _ _ => by kernel_rfl
  have i3 : ∀ (a b c d : Int) (w : World), (Instr.index 50 (.agg #[.int .i64 a, .int .i64 b, .int .i64 c, .int .i64 d]) (.int .i64 3)).run Try.prog w = .ok (.int .i64 d) w := fun _ _ _ _ _ => by kernel_rfl
  go_enter Try.func12, Try.ntmps12
  go_wp2
  go_rounds 5
  all_goals (go_ret; exact ⟨rfl, by repeat (first | exact Fr0.refl _ | refine Fr.drew ?_ | refine Fr.alloc ?_ _)⟩)
set_option maxHeartbeats 400000 in
theorem may_good4 (old new ack trash : Int) (A : Option Addr) (n c : Nat) (w : World) (l0 : ¬ old < 0) (u0 : ¬ 1099511627776 < old) (l1 : ¬ new < 0) (u1 : ¬ 1099511627776 < new) (l2 : ¬ ack < 0) (u2 : ¬ 1099511627776 < ack) (l3 : ¬ trash < 0) (u3 : ¬ 1099511627776 < trash) (h1 : ¬ new < old) (h2 : ¬ old < trash) (h3 : (new == old) = false) (h5 : 65496 < n) :
    Calls Try.prog 12 #[.agg #[.int .i64 old, .int .i64 new, .int .i64 ack, .int .i64 trash, .slice A n c]] w fun e w' => e = .returned (.int .i64 3) ∧ Fr0 w w' := by
  have i0 : ∀ (a b c d : Int) (w : World), (Instr.index 50 (.agg #[.int .i64 a, .int .i64 b, .int .i64 c, .int .i64 d]) (.int .i64 0)).run Try.prog w = .ok (.int .i64 a) w := fun _ _ _ _ _ => by kernel_rfl
  have i1 : ∀ (a b c d : Int) (w : World), (Instr.index 50 (.agg #[.int .i64 a, .int .i64 b, .int .i64 c, .int .i64 d]) (.int .i64 1)).run Try.prog w = .ok (.int .i64 b) w := fun _ _ _ _ _ => by kernel_rfl
  have i2 : ∀ (a b c d : Int) (w : World), (Instr.index 50 (.agg #[.int .i64 a, .int .i64 b, .int .i64 c, .int .i64 d]) (.int .i64 2)).run Try.prog w = .ok (.int .i64 c) w := fun _ _ _ _ _ => by kernel_rfl
  have i3 : ∀ (a b c d : Int) (w : World), (Instr.index 50 (.agg #[.int .i64 a, .int .i64 b, .int .i64 c, .int .i64 d]) (.int .i64 3)).run Try.prog w = .ok (.int .i64 d) w := fun _ _ _ _ _ => by kernel_rfl
  go_enter Try.func12, Try.ntmps12
  go_wp2
  go_rounds 5
  all_goals (go_ret; exact ⟨rfl, by repeat (first | exact Fr0.refl _ | refine Fr.drew ?_ | refine Fr.alloc ?_ _)⟩)
set_option maxHeartbeats 400000 in
theorem may_good5 (old new ack trash : Int) (A : Option Addr) (n c : Nat) (w : World) (l0 : ¬ old < 0) (u0 : ¬ 1099511627776 < old) (l1 : ¬ new < 0) (u1 : ¬ 1099511627776 < new) (l2 : ¬ ack < 0) (u2 : ¬ 1099511627776 < ack) (l3 : ¬ trash < 0) (u3 : ¬ 1099511627776 < trash) (h1 : ¬ new < old) (h2 : ¬ old < trash) (h3 : (new == old) = false) (h5 : ¬ 65496 < n) :
    Calls Try.prog 12 #[.agg #[.int .i64 old, .int .i64 new, .int .i64 ack, .int .i64 trash, .slice A n c]] w fun e w' => e = .returned (.int .i64 0) ∧ Fr0 w w' := by
  have i0 : ∀ (a b c d : Int) (w : World), (Instr.index 50 (.agg #[.int .i64 a, .int .i64 b, .int .i64 c, .int .i64 d]) (.int .i64 0)).run Try.prog w = .ok (.int .i64 a) w := fun _ _ _ _ _ => by kernel_rfl
  have i1 : ∀ (a b c d : Int) (w : World), (Instr.index 50 (.agg #[.int .i64 a, .int .i64 b, .int .i64 c, .int .i64 d]) (.int .i64 1)).run Try.prog w = .ok (.int .i64 b) w := fun _ _ _ _ _ => by kernel_rfl
  have i2 : ∀ (a b c d : Int) (w : World), (Instr.index 50 (.agg #[.int .i64 a, .int .i64 b, .int .i64 c, .int .i64 d]) (.int .i64 2)).run Try.prog w = .ok (.int .i64 c) w := fun _ _ _ _ _ => by kernel_rfl
  have i3 : ∀ (a b c d : Int) (w : World), (Instr.index 50 (.agg #[.int .i64 a, .int .i64 b, .int .i64 c, .int .i64 d]) (.int .i64 3)).run Try.prog w = .ok (.int .i64 d) w := fun _ _ _ _ _ => by kernel_rfl
  go_enter Try.func12, Try.ntmps12
  go_wp2
  go_rounds 5
  all_goals (go_ret; exact ⟨rfl, by repeat (first | exact Fr0.refl _ | refine Fr.drew ?_ | refine Fr.alloc ?_ _)⟩)
theorem may_any (old new ack trash : Int) (A : Option Addr) (n c : Nat) (w : World) : Calls Try.prog 12 #[.agg #[.int .i64 old, .int .i64 new, .int .i64 ack, .int .i64 trash, .slice A n c]] w fun e w' => e = .returned (.int .i64 (may old new ack trash n)) ∧ Fr0 w w' := by
  by_cases h0 : okn old
  · by_cases h1 : okn new
    · by_cases h2 : okn ack
      · by_cases h3 : okn trash
        · obtain ⟨⟨a0, b0⟩, ⟨a1, b1⟩, ⟨a2, b2⟩, ⟨a3, b3⟩⟩ := And.intro h0 (And.intro h1 (And.intro h2 h3))
          have g : ∀ {v : Int}, (¬ (new < old ∨ trash > old ∨ (new = old ∧ 0 < n)) → v = if 65496 < n then 3 else 0) → ((new < old ∨ trash > old ∨ (new = old ∧ 0 < n)) → v = 2) → v = may old new ack trash n := by
            intro v k1 k2
            unfold may
            rw [if_neg (by intro h; exact h ⟨h0, h1, h2, h3⟩)]
            by_cases q : new < old ∨ trash > old ∨ (new = old ∧ 0 < n)
            · rw [if_pos q]; exact k2 q
            · rw [if_neg q]; exact k1 q
          by_cases q1 : new < old
          · rw [← g (v := 2) (fun h => absurd (.inl q1) h) (fun _ => rfl)]
            exact may_good0 _ _ _ _ _ _ _ _ (by omega) (by omega) (by omega) (by omega) (by omega) (by omega) (by omega) (by omega) q1
          · by_cases q2 : old < trash
            · rw [← g (v := 2) (fun h => absurd (.inr (.inl q2)) h) (fun _ => rfl)]
              exact may_good1 _ _ _ _ _ _ _ _ (by omega) (by omega) (by omega) (by omega) (by omega) (by omega) (by omega) (by omega) q1 q2
            · by_cases q3 : new = old
              · by_cases q4 : 0 < n
                · rw [← g (v := 2) (fun h => absurd (.inr (.inr ⟨q3, q4⟩)) h) (fun _ => rfl)]
                  exact may_good2 _ _ _ _ _ _ _ _ (by omega) (by omega) (by omega) (by omega) (by omega) (by omega) (by omega) (by omega) q1 q2 (by simp [q3]) q4
                · rw [← g (v := 0) (fun _ => by rw [if_neg (by omega)]) (fun h => by omega)]
                  exact may_good3 _ _ _ _ _ _ _ _ (by omega) (by omega) (by omega) (by omega) (by omega) (by omega) (by omega) (by omega) q1 q2 (by simp [q3]) q4
              · by_cases q5 : 65496 < n
                · rw [← g (v := 3) (fun _ => by rw [if_pos q5]) (fun h => by omega)]
                  exact may_good4 _ _ _ _ _ _ _ _ (by omega) (by omega) (by omega) (by omega) (by omega) (by omega) (by omega) (by omega) q1 q2 (by simp [q3]) q5
                · rw [← g (v := 0) (fun _ => by rw [if_neg q5]) (fun h => by omega)]
                  exact may_good5 _ _ _ _ _ _ _ _ (by omega) (by omega) (by omega) (by omega) (by omega) (by omega) (by omega) (by omega) q1 q2 (by simp [q3]) q5
        · have e : may old new ack trash n = 2 := by unfold may; rw [if_pos (fun h => h3 h.2.2.2)]
          rw [e]
          unfold okn at h0 h1 h2
          rcases nok h3 with h | ⟨h, h'⟩
          · exact may_bad3l _ _ _ _ _ _ _ _ (by omega) (by omega) (by omega) (by omega) (by omega) (by omega) h
          · exact may_bad3h _ _ _ _ _ _ _ _ (by omega) (by omega) (by omega) (by omega) (by omega) (by omega) h h'
      · have e : may old new ack trash n = 2 := by unfold may; rw [if_pos (fun h => h2 h.2.2.1)]
        rw [e]
        unfold okn at h0 h1
        rcases nok h2 with h | ⟨h, h'⟩
        · exact may_bad2l _ _ _ _ _ _ _ _ (by omega) (by omega) (by omega) (by omega) h
        · exact may_bad2h _ _ _ _ _ _ _ _ (by omega) (by omega) (by omega) (by omega) h h'
    · have e : may old new ack trash n = 2 := by unfold may; rw [if_pos (fun h => h1 h.2.1)]
      rw [e]
      unfold okn at h0
      rcases nok h1 with h | ⟨h, h'⟩
      · exact may_bad1l _ _ _ _ _ _ _ _ (by omega) (by omega) h
      · exact may_bad1h _ _ _ _ _ _ _ _ (by omega) (by omega) h h'
  · have e : may old new ack trash n = 2 := by unfold may; rw [if_pos (fun h => h0 h.1)]
    rw [e]
    rcases nok h0 with h | ⟨h, h'⟩
    · exact may_bad0l _ _ _ _ _ _ _ _ h
    · exact may_bad0h _ _ _ _ _ _ _ _ h h'
end Go.Proofs.Ytkgjmfmnkcfabaa
