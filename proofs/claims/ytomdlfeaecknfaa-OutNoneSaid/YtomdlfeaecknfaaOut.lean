/- A sender of texts in memory, and its small functions. Conditions stand in the statements. -/
import Derived.Test.YtomdlfeaecknfaaOwn
import Derived.Test.YtomdlfeaecknfaaFlat
import Derived.Test.YtomdlfeaecknfaaOutLaw
import Derived.WalkKit
import Derived.WalkSpells
import Derived.BigQuiet
import Derived.Deep.QuietTactic
import Derived.Lib.Hide
import Derived.Handy
namespace Go.Proofs.Ytomdlfeaecknfaa
open Go.RowKit

def sntC (x : Snt) : List Value := [.int .i64 x.n, .string x.s, .bool x.told, .int .i64 x.at_]
theorem sntC_len (x : Snt) : (sntC x).length = 4 := rfl
theorem sntC_one (x : Snt) : ∀ u ∈ sntC x, u.oneCell' = true := by
  intro u hu
  simp only [sntC, List.mem_cons, List.not_mem_nil, or_false] at hu
  rcases hu with rfl | rfl | rfl | rfl <;> rfl

/-- A sender in memory, its slice named. -/
structure OutV (w : World) (p : Nat) (fs fd : Value) (A : Option Addr) (c : Nat) (o : OutD) : Prop where
  blk : Blk w p #[fs, fd, .string o.now, .slice A o.all.length c, .int .i64 o.ack, .bool o.told, .int .i64 o.at_] 61
  rd : Rd w 4 (.slice A o.all.length c) o.all.length (flat sntC o.all)
  ty : TyB w (.slice A o.all.length c) 64
section
variable {w w' : World} {p : Nat} {fs fd : Value} {A : Option Addr} {c : Nat} {o : OutD}
theorem OutV.fr0 (h : OutV w p fs fd A c o) (hf : Fr0 w w') : OutV w' p fs fd A c o := ⟨h.blk.fr0 hf, h.rd.fr0 hf, h.ty.fr0 hf⟩
theorem OutV.fr1 {q : Nat} {vs : Array Value} {t : TypeId} (h : OutV w p fs fd A c o) (hf : Fr1 q w w') (hq : Blk w q vs t) (hpq : p ≠ q) (ht : 64 ≠ t) : OutV w' p fs fd A c o :=
  ⟨h.blk.fr1 hf hpq, h.rd.frT h.ty hf hq ht, h.ty.fr1 hf hq ht⟩
/-- The slice's address, and the cells of what is sent. -/
theorem OutV.addr (h : OutV w p fs fd A c o) (hn : 0 < o.all.length) : ∃ g off, A = some ⟨g, off, none⟩ ∧ g < w.heap.size ∧ o.all.length ≤ c := by
  obtain ⟨g, off, hA, h1, h2, _⟩ := h.rd.cellA (i := 0) hn
  obtain ⟨A', c', hv, hnc, _, _⟩ := h.rd.form
  injection hv with _ _ hcc
  exact ⟨g, off, hA, h2, by omega⟩
theorem OutV.cellAt {g off : Nat} (h : OutV w p fs fd (some ⟨g, off, none⟩) c o) {i : Nat} (hi : i < o.all.length) :
    w.cell? ⟨g, off + i * 4, none⟩ = some (.int .i64 o.all[i].n) ∧ w.cell? ⟨g, off + i * 4 + 1, none⟩ = some (.string o.all[i].s) ∧ w.cell? ⟨g, off + i * 4 + 2, none⟩ = some (.bool o.all[i].told) ∧ w.cell? ⟨g, off + i * 4 + 3, none⟩ = some (.int .i64 o.all[i].at_) := by
  have f := fun j (hj : j < 4) => flat_at sntC_len o.all i hi hj
  refine ⟨?_, ?_, ?_, ?_⟩
  · have := h.rd.cellG hi (j := 0) (f 0 (by omega)); simpa using this
  · exact h.rd.cellG hi (j := 1) (f 1 (by omega))
  · exact h.rd.cellG hi (j := 2) (f 2 (by omega))
  · exact h.rd.cellG hi (j := 3) (f 3 (by omega))
end

set_option maxHeartbeats 400000 in
theorem there_yes {p : Nat} {fs fd nv : Value} {a : Option Addr} {n c : Nat} {ak tl at_ : Value} {w : World} (h : Blk w p #[fs, fd, nv, .slice a n c, ak, tl, at_] 61) (hn : 0 < n) :
    Calls Try.prog 25 #[.pointer (some ⟨p, 0, none⟩)] w fun e w' => e = .returned (.bool true) ∧ w = w' := by
  have h1 : w.cell? ⟨p, 3, none⟩ = some (.slice a n c) := h.cell 3 rfl
  clear h
  go_enter Try.func25, Try.ntmps25
  go_wp2
  go_ret
  exact ⟨rfl, rfl⟩

set_option maxHeartbeats 400000 in
theorem last_any {p : Nat} {fs fd : Value} {g off c : Nat} {o : OutD} {w : World} (h : OutV w p fs fd (some ⟨g, off, none⟩) c o) (hn : 0 < o.all.length) :
    Calls Try.prog 32 #[.pointer (some ⟨p, 0, none⟩)] w fun e w' => e = .returned (.pointer (some ⟨g, off + (o.all.length - 1) * 4, none⟩)) ∧ ∃ n, w' = w.drewN n := by
  have hl63 := h.rd.le63
  have h1 : w.cell? ⟨p, 3, none⟩ = some (.slice (some ⟨g, off, none⟩) o.all.length c) := h.blk.cell 3 rfl
  have hp := h.blk.lt
  clear h
  obtain ⟨m, hm⟩ : ∃ m, o.all.length = m + 1 := ⟨o.all.length - 1, by omega⟩
  rw [hm] at h1 hl63 ⊢
  rw [show m + 1 - 1 = m from rfl]
  clear hm hn
  go_enter Try.func32, Try.ntmps32
  go_wp2
  go_quiet (fail)
  go_wp2
  go_ret
  exact ⟨rfl, _, rfl⟩

set_option maxHeartbeats 400000 in
theorem since_any (t : Bool) (a n less : Int) (w : World) (h1 : -9223372036854775808 ≤ n - a) (h2 : n - a ≤ 9223372036854775807) :
    Calls Try.prog 28 #[.bool t, .int .i64 a, .int .i64 n, .int .i64 less] w fun e w' => e = .returned (.bool (since t a n less)) ∧ w = w' := by
  cases t with
  | false =>
    go_enter Try.func28, Try.ntmps28
    go_wp2
    go_ret
    exact ⟨rfl, rfl⟩
  | true =>
    go_enter Try.func28, Try.ntmps28
    go_wp2
    go_ret
    exact ⟨rfl, rfl⟩

/-- A function value that tells whether texts are the same. -/
def SameFn (fs : Value) : Prop := ∃ fn, fs = .func (.func fn) #[] #[] ∧ (∀ (args : Array Value) (w1 : World), (callFunc fn args).run Try.prog w1 = .ok (.enter fn args) w1) ∧
  ∀ (a b : ByteArray) (w : World), Calls Try.prog fn #[.string a, .string b] w fun e w' => e = .returned (.bool (decide (a = b))) ∧ w = w'
def DiffFn (fd : Value) : Prop := ∃ fn, fd = .func (.func fn) #[] #[] ∧ (∀ (args : Array Value) (w1 : World), (callFunc fn args).run Try.prog w1 = .ok (.enter fn args) w1) ∧
  ∀ (a b : ByteArray) (w : World), a.size ≤ 100000 → b.size ≤ 100000 → Calls Try.prog fn #[.string a, .string b] w fun e w' => Fr0 w w' ∧
    ((bang a = false ∧ bang b = false ∧ ∃ A c, e = .returned (.tuple #[.slice A (diffT a b).length c, .int .i64 0]) ∧ RdB w' (.slice A (diffT a b).length c) (diffT a b) ∧ TyB w' (.slice A (diffT a b).length c) 5) ∨ ((bang a = true ∨ bang b = true) ∧ e = .returned (.tuple #[.slice none 0 0, .int .i64 2])))
theorem diffT_len (a b : ByteArray) : (diffT a b).length = a.size + 1 + b.size := by
  unfold diffT
  simp only [ByteArray.data_append, Array.toList_append, List.length_append, Array.length_toList]
  rfl

end Go.Proofs.Ytomdlfeaecknfaa
