/- append of bytes onto bytes of the call's own, the frame carried along. Conditions stand in the statements. -/
import Derived.Test.YtcbllkkbpjobpaaApp
import Derived.Test.YtcbllkkbpjobpaaOwn
import Derived.WalkKit
import Derived.WalkSpells
import Derived.BigQuiet
import Derived.Deep.QuietTactic
import Derived.Lib.Hide
import Derived.Handy
namespace Go.Proofs.Ytcbllkkbpjobpaa
open Go.RowKit

theorem app_bytes {ops : Array Oper} {rest : List Oper} {o : Oper} {a : Act} {Q : Exit → Act → World → Prop} (hgd : o.guard = none) (s x : Operand)
    (ho : o.op = .call { callee := .builtin .append, args := #[s, x], argTypes := #[26, 26] }) {w0 w : World} (hf : Fr0 w0 w) {v1 v2 : Value} {L1 L2 : List UInt8} {k1 k2 : Nat}
    (h1 : w.ownsRow w0.heap.size 5 1 v1 k1 (byts L1)) (hs : a.eval s = v1) (h2 : Rd w 1 v2 k2 (byts L2)) (hx : a.eval x = v2) (hl : k1 + k2 ≤ 100000000)
    (h : ∀ A c w', w'.ownsRow w0.heap.size 5 1 (.slice A (k1 + k2) c) (k1 + k2) (byts (L1 ++ L2)) → Fr0 w0 w' → wpList Try.prog ops Q rest (a.put o.dst (.slice A (k1 + k2) c)) w') :
    wpList Try.prog ops Q (o :: rest) a w := by
  obtain ⟨i0, hi, hz0, hz1, hz2⟩ := info_parts infoU8
  refine wpList_append_rd _ hgd s x 26 ho w0.heap.size 5 i0 (.int .u8 0) 1 1 Try.underlying26 hi hz0 hz1 hz2 rfl (by decide) v1 k1 (byts L1) hs h1 v2 k2 (byts L2) hx h2 (byts_one L2) (by unfold maxLen; omega) (by omega) hf.size ?_
  intro v' w' hown hgrow
  rw [← byts_app] at hown
  obtain ⟨A, c, rfl, -, -, -⟩ := own_form hown
  exact h A c w' hown (Fr.grown hf hgrow (fun k hk => .inr (own_lt' h1 k hk).1))
theorem rdb_of {w : World} {v : Value} {k : Nat} {d : List UInt8} (h : Rd w 1 v k (byts d)) : RdB w v d := by
  have := h.len
  rw [byts_len] at this
  obtain rfl : d.length = k := by omega
  exact h
theorem rd_oneW (w : World) (x : Int) : Rd (w.alloc (.cells #[.int .u8 x] 5)) 1 (.slice (some ⟨w.heap.size, 0, none⟩) 1 1) 1 [.int .u8 x] :=
  ⟨rfl, ⟨_, _, rfl, Nat.le_refl _, by unfold maxLen; omega, fun h => by cases h⟩, fun _ => ⟨w.heap.size, 0, 1, _, _, _, rfl, heap_alloc_new w _, fun j u hu => by simpa using hu⟩⟩
theorem one_cell (x : Int) : ∀ u ∈ [Value.int .u8 x], u.oneCell' = true := by simp [Value.oneCell']
end Go.Proofs.Ytcbllkkbpjobpaa
