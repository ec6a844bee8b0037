/- Blocks taken one after the other, in plain numbers. Conditions stand in the statements. -/
import Derived.Test.YtgcjbbliaelkcaaShaTurns
import Derived.Test.YtgcjbbliaelkcaaShaStarts
namespace Go.Proofs.Ytgcjbbliaelkcaa
open Go.RowKit

theorem blocksN_app (x : H8) (a b : List UInt8) (ks : List Nat) : ∀ n, n * 64 ≤ a.length → blocksN x (a ++ b) ks n = blocksN x a ks n := by
  intro n
  induction n with
  | zero => intro _; rfl
  | succ n ih =>
    intro h
    show takeN (blocksN x (a ++ b) ks n) (((a ++ b).drop (n * 64)).take 64) ks = takeN (blocksN x a ks n) ((a.drop (n * 64)).take 64) ks
    rw [ih (by omega), List.drop_append_of_le_length (by omega), List.take_append_of_le_length (by simp; omega)]
theorem startH_ok : startH.ok := by
  have h := startL_eq.trans (show startL = _ from start_tab)
  simp only [H8.list, List.cons.injEq, and_true] at h
  obtain ⟨h0, h1, h2, h3, h4, h5, h6, h7⟩ := h
  refine ⟨?_, ?_, ?_, ?_, ?_, ?_, ?_, ?_⟩ <;> omega
theorem blocksN_ok {x : H8} (h : x.ok) (b : List UInt8) (ks : List Nat) : ∀ n, (blocksN x b ks n).ok
  | 0 => h
  | _ + 1 => add8_ok _ _
theorem blocksN_succ (x : H8) (b : List UInt8) (ks : List Nat) (n : Nat) : blocksN x b ks (n + 1) = takeN (blocksN x b ks n) ((b.drop (n * 64)).take 64) ks := rfl
end Go.Proofs.Ytgcjbbliaelkcaa
