/- The reference's digits: as they lie in memory; digits walked. Conditions stand in the statements. -/
import Derived.Test.YtjkcbklgddnbdaaShaNum
import Derived.Test.YtjkcbklgddnbdaaSteps2
import Derived.Test.YtjkcbklgddnbdaaAppStep
import Derived.Test.YtjkcbklgddnbdaaRows
set_option linter.unusedSimpArgs false
namespace Go.Proofs.Ytjkcbklgddnbdaa
open Go.RowKit

def ucells (l : List Nat) : List Value := l.map fun (x : Nat) => Value.int .u64 (x : Int)
theorem ucells_len (l : List Nat) : (ucells l).length = l.length * 1 := by simp [ucells]
theorem ucells_one (l : List Nat) : ∀ u ∈ ucells l, u.oneCell' = true := fun u hu => by obtain ⟨x, _, rfl⟩ := List.mem_map.1 hu; rfl
theorem ucells_at (l : List Nat) (i : Nat) (h : i < l.length) : (ucells l)[i]? = some (.int .u64 ((l.getD i 0 : Nat) : Int)) := by
  rw [ucells, List.getElem?_map, show l[i]? = some (l.getD i 0) from by simp [List.getD, h]]
  rfl
theorem ucells_app (a b : List Nat) : ucells (a ++ b) = ucells a ++ ucells b := by simp [ucells]
/-- A slice reads as digits. -/
def RdU (w : World) (v : Value) (l : List Nat) : Prop := Rd w 1 v l.length (ucells l)
theorem RdU.fr0 {w w' : World} {v : Value} {l : List Nat} (h : RdU w v l) (hf : Fr0 w w') : RdU w' v l := Rd.fr0 h hf
theorem RdU.cell {w : World} {A : Option Addr} {n c : Nat} {l : List Nat} (h : RdU w (.slice A n c) l) {i : Nat} (hi : i < l.length) : ∃ g off, A = some ⟨g, off, none⟩ ∧ g < w.heap.size ∧ w.cell? ⟨g, off + i, none⟩ = some (.int .u64 ((l.getD i 0 : Nat) : Int)) := by
  obtain ⟨A', c', hv, -⟩ := Rd.form h
  have hn : n = l.length := by injection hv
  subst hn
  obtain ⟨g, off, hA, -, h1, h2⟩ := Rd.cellA h hi
  exact ⟨g, off, hA, h1, by have := h2 0 _ (by rw [Nat.mul_one, Nat.add_zero]; exact ucells_at l i hi); simpa using this⟩
theorem infoU64 : (Try.prog.info? 46).map (fun i => (i.zero, i.size, i.bytes)) = some (some (.int .u64 0), 1, 8) := by kernel_rfl
def digL (n : Nat) : Nat → List Nat
  | 0 => []
  | k + 1 => digL n k ++ [n / 65536 ^ k % 65536]
theorem digL_len (n : Nat) : ∀ k, (digL n k).length = k
  | 0 => rfl
  | k + 1 => by simp [digL, digL_len n k]
theorem digL_digs (n : Nat) : digL n 4 = digs n := by
  simp only [digL, digs, List.nil_append, List.cons_append, Nat.pow_zero, Nat.div_one, Nat.pow_succ, Nat.one_mul, Nat.div_div_eq_div_mul]
set_option maxHeartbeats 1000000 in
theorem digits_any (n : Nat) (w : World) (hn : n < 18446744073709551616) : Calls Try.prog 46 #[.int .u64 n] w fun e w' => ∃ v, e = .returned v ∧ RdU w' v (digs n) ∧ Fr0 w w' := by
  obtain ⟨i, hi, hz0, hz1, hz2⟩ := info_parts infoU64
  go_enter Try.func46, Try.ntmps46
  go_wp2_with fail
  go_loopw [0, 3, 4] (fun v0 v3 v4 wr => ∃ (k m : Nat) (A : Option Addr) (c : Nat), k ≤ 4 ∧ v4 = .int .i64 k ∧ v0 = .int .u64 m ∧ Hid (m = n / 65536 ^ k) ∧ m < 18446744073709551616 ∧ v3 = .slice A k c ∧ wr.ownsRow w.heap.size 46 1 (.slice A k c) k (ucells (digL n k)) ∧ Fr0 w wr) (fun _ _ v4 _ => 4 - (intOf v4).toNat)
  case atStart => exact ⟨0, n, none, 0, by omega, rfl, rfl, Lib.hid (by simp), hn, rfl, ⟨by simp [ucells, digL], .inl ⟨rfl, rfl⟩⟩, Fr0.refl _⟩
  case round =>
    obtain ⟨k, m, A, c, hk, rfl, rfl, hm, hml, rfl, ho, hf⟩ := hrel
    have O := Lib.hid ho
    have F := Lib.hid hf
    clear ho hf
    by_cases hlt : k < 4
    · have q1 : decide ((k : Int) < 4) = true := by simp; omega
      have B1 := Lib.hid (fun (d : Int) => Blk.new wr #[.int .u64 d] 46)
      have R1 := Lib.hid (fun (d : Int) => rd_one (cs := [.int .u64 d]) ((B1.out) d))
      have FA := Lib.hid (fun (d : Int) => (F.out).alloc (.cells #[.int .u64 d] 46))
      have OA := Lib.hid (fun (d : Int) => own_fr O.out ((Fr0.refl wr).alloc (.cells #[.int .u64 d] 46)) (fun _ _ h => h))
      have hmod : (m : Int) % 65536 = ((m % 65536 : Nat) : Int) := by omega
      have hdiv : (m : Int) / 65536 = ((m / 65536 : Nat) : Int) := by omega
      have e1 := Lib.hid (show m % 65536 = n / 65536 ^ k % 65536 by rw [hm.out])
      have e2 := Lib.hid (show m / 65536 = n / 65536 ^ (k + 1) by rw [hm.out, Nat.pow_succ, Nat.div_div_eq_div_mul])
      have e3 : m / 65536 < 18446744073709551616 := by omega
      obtain ⟨md, hmd⟩ : ∃ x, x = m % 65536 := ⟨_, rfl⟩
      obtain ⟨mq, hmq⟩ : ∃ x, x = m / 65536 := ⟨_, rfl⟩
      rw [← hmd] at hmod e1
      rw [← hmq] at hdiv e2 e3
      clear hmd hmq
      go_wp2_with (refine list_append_rd rfl _ _ 71 rfl ((FA.out) (md : Int)) 46 i _ 1 8 Try.underlying71 hi hz0 hz1 hz2 rfl (by decide) ((OA.out) (md : Int)) rfl ((R1.out) (md : Int)) rfl (fun u hu => by cases List.mem_singleton.1 hu; rfl) (by unfold maxLen; omega) (by omega) ?_; intro A2 c2 w2 ho2 hf2; have O2 := Lib.hid ho2; have F2 := Lib.hid hf2; clear ho2 hf2)
      go_roundw
      case measure => simp [intOf]; omega
      case rel =>
        have o2 := O2.out
        rw [show ucells (digL n k) ++ [Value.int .u64 (md : Int)] = ucells (digL n (k + 1)) by rw [digL, ucells_app, ← e1.out]; rfl] at o2
        exact ⟨k + 1, mq, A2, c2, by omega, by go_num, rfl, Lib.hid e2.out, e3, rfl, o2, F2.out⟩
    · obtain rfl : k = 4 := by omega
      have HE := Lib.hid (show RdU wr (.slice A 4 c) (digs n) by
        have h := Rd.of_own O.out
        rw [digL_digs] at h
        exact h)
      clear hlt hk hm hml
      go_wp2_with fail
      go_ret
      exact ⟨_, rfl, HE.out, F.out⟩
end Go.Proofs.Ytjkcbklgddnbdaa
