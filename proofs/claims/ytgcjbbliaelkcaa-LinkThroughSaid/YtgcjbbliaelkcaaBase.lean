/- Words for memory that all walks of this seat share: what a call may have changed (Fr), a block known whole, a slice that reads as a list of rows. No condition. -/
import Derived.Below
import Derived.Laws.OwnMore
import Derived.Deep.Draws
import Derived.OneCell
namespace Go.Proofs.Ytgcjbbliaelkcaa
open Go.RowKit

/-- Blocks outside S are as they were; the heap has only grown. -/
structure Fr (S : Nat → Prop) (w w' : World) : Prop where
  os : w'.os = w.os
  tape : w'.tape = w.tape
  output : w'.output = w.output
  size : w.heap.size ≤ w'.heap.size
  block : ∀ k, k < w.heap.size → ¬ S k → w'.heap[k]? = w.heap[k]?

/-- Nothing that was there has turned. -/
def Fr0 (w w' : World) : Prop := Fr (fun _ => False) w w'
/-- Only block b has turned. -/
def Fr1 (b : Nat) (w w' : World) : Prop := Fr (fun k => k = b) w w'

section
variable {S S' : Nat → Prop} {a w w' w1 w2 : World} {b : Nat}
theorem Fr.refl (S : Nat → Prop) (w : World) : Fr S w w := ⟨rfl, rfl, rfl, Nat.le_refl _, fun _ _ _ => rfl⟩
theorem Fr.mono (h : Fr S w w') (hs : ∀ k, S k → S' k) : Fr S' w w' := ⟨h.os, h.tape, h.output, h.size, fun k hk hn => h.block k hk fun hs' => hn (hs k hs')⟩
theorem Fr.trans (h : Fr S w w1) (k : Fr S w1 w2) : Fr S w w2 :=
  ⟨k.os.trans h.os, k.tape.trans h.tape, k.output.trans h.output, Nat.le_trans h.size k.size, fun i hi hn => (k.block i (Nat.lt_of_lt_of_le hi h.size) hn).trans (h.block i hi hn)⟩
/-- A later step may also turn what has been made since. -/
theorem Fr.then (h : Fr S w w1) (k : Fr S' w1 w2) (hs : ∀ i, S' i → i < w.heap.size → S i) : Fr S w w2 :=
  ⟨k.os.trans h.os, k.tape.trans h.tape, k.output.trans h.output, Nat.le_trans h.size k.size, fun i hi hn => (k.block i (Nat.lt_of_lt_of_le hi h.size) fun h' => hn (hs i h' hi)).trans (h.block i hi hn)⟩
theorem Fr.drew (h : Fr S w w1) : Fr S w w1.drew := ⟨h.os, h.tape, h.output, h.size, h.block⟩
theorem Fr.drewN (h : Fr S w w1) (n : Nat) : Fr S w (w1.drewN n) := ⟨h.os, h.tape, h.output, h.size, h.block⟩
theorem Fr.alloc (h : Fr S w w1) (o : Obj) : Fr S w (w1.alloc o) :=
  ⟨h.os, h.tape, h.output, Nat.le_trans h.size (by simp), fun i hi hn => (Below.heap_alloc w1 o i (Nat.lt_of_lt_of_le hi h.size)).trans (h.block i hi hn)⟩
theorem Fr.setCell (h : Fr S w w1) {p : Addr} (hp : S p.block ∨ w.heap.size ≤ p.block) (u : Value) : Fr S w (w1.setCell p u) :=
  ⟨h.os, h.tape, h.output, by simpa [World.setCell] using h.size, fun i hi hn => (Below.heap_setCell w1 p u i (by
    rintro rfl
    rcases hp with hp | hp
    · exact hn hp
    · omega)).trans (h.block i hi hn)⟩
theorem Fr.grown {row : Option Nat} (h : Fr S w w1) (hg : w1.grownBy w2 row) (hr : ∀ k, row = some k → S k ∨ w.heap.size ≤ k) : Fr S w w2 :=
  ⟨hg.os.trans h.os, hg.tape.trans h.tape, hg.output.trans h.output, Nat.le_trans h.size hg.size, fun i hi hn => (hg.block i (Nat.lt_of_lt_of_le hi h.size) (fun e => by
    rcases hr i e.symm with hp | hp
    · exact hn hp
    · omega)).trans (h.block i hi hn)⟩
theorem Fr.of_below (h : Below w.heap.size w w') (S : Nat → Prop) : Fr S w w' := ⟨h.os, h.tape, h.output, h.size, fun k hk _ => h.block k hk⟩
theorem Fr0.below (h : Fr0 w w') : Below w.heap.size w w' := ⟨h.os, h.tape, h.output, h.size, fun k hk => h.block k hk (fun h => h)⟩
theorem Fr.below {B : Nat} (h : Fr S w w') (hB : B ≤ w.heap.size) (hs : ∀ k, S k → B ≤ k) : Below B w w' := ⟨h.os, h.tape, h.output, h.size, fun k hk => h.block k (by omega) (fun h' => by have := hs k h'; omega)⟩
theorem Fr0.refl (w : World) : Fr0 w w := Fr.refl _ w
theorem Fr0.of_below (h : Below w.heap.size w w') : Fr0 w w' := Fr.of_below h _
theorem Fr0.trans (h : Fr0 w w1) (k : Fr0 w1 w2) : Fr0 w w2 := Fr.trans h k
theorem Fr.then0 (h : Fr S w w1) (k : Fr0 w1 w2) : Fr S w w2 := Fr.then h k (fun _ h' _ => h'.elim)
theorem Fr1.then0 (h : Fr1 b w w1) (k : Fr0 w1 w2) : Fr1 b w w2 := Fr.then0 h k
theorem Fr1.of0 (h : Fr0 w w1) : Fr1 b w w1 := Fr.mono h (fun _ h => h.elim)
theorem Fr0.cell {p : Addr} {v : Value} (h : Fr0 w w') (hc : w.cell? p = some v) : w'.cell? p = some v := (Below.cell (Fr0.below h) (World.block_lt_of_cell? w p hc)).trans hc
theorem Fr1.refl (b : Nat) (w : World) : Fr1 b w w := Fr.refl _ w
theorem Fr1.trans (h : Fr1 b w w1) (k : Fr1 b w1 w2) : Fr1 b w w2 := Fr.trans h k
theorem Fr1.set (h : Fr1 b w w1) (k : Nat) (u : Value) : Fr1 b w (w1.setCell ⟨b, k, none⟩ u) := Fr.setCell (p := ⟨b, k, none⟩) h (.inl rfl) u
theorem Fr0.alloc (h : Fr0 w w1) (o : Obj) : Fr0 w (w1.alloc o) := Fr.alloc h o
theorem Fr0.drew (h : Fr0 w w1) : Fr0 w w1.drew := Fr.drew h
theorem Fr0.drewN (h : Fr0 w w1) (n : Nat) : Fr0 w (w1.drewN n) := Fr.drewN h n
theorem Fr1.alloc (h : Fr1 b w w1) (o : Obj) : Fr1 b w (w1.alloc o) := Fr.alloc h o
theorem Fr1.drew (h : Fr1 b w w1) : Fr1 b w w1.drew := Fr.drew h
theorem Fr1.drewN (h : Fr1 b w w1) (n : Nat) : Fr1 b w (w1.drewN n) := Fr.drewN h n
/-- A step that turns only what has been made since. -/
theorem Fr0.new (h : Fr0 w w1) (k : Fr1 b w1 w2) (hb : w.heap.size ≤ b) : Fr0 w w2 := Fr.then h k (fun i hi hl => by subst hi; omega)
theorem Fr.new (h : Fr S w w1) (k : Fr1 b w1 w2) (hb : S b ∨ w.heap.size ≤ b) : Fr S w w2 := Fr.then h k (fun i hi hl => by subst hi; exact hb.resolve_right (by omega))
end

/-- A block known whole. -/
def Blk (w : World) (b : Nat) (vs : Array Value) (t : TypeId) : Prop := w.heap[b]? = some (.cells vs t (0, 0))
section
variable {S : Nat → Prop} {w w' w1 : World} {b : Nat} {vs : Array Value} {t : TypeId}
theorem Blk.lt (h : Blk w b vs t) : b < w.heap.size := lt_of_block h
theorem Blk.cell (h : Blk w b vs t) (k : Nat) {v : Value} (hk : vs[k]? = some v) : w.cell? ⟨b, k, none⟩ = some v := by
  unfold Blk at h; simp [World.cell?, h, hk]
theorem Blk.free (h : Blk w b vs t) (k : Nat) : w.frozen? ⟨b, k, none⟩ = false := by
  unfold Blk at h; simp [World.frozen?, h]
theorem Blk.fr (h : Blk w b vs t) (hf : Fr S w w') (hs : ¬ S b) : Blk w' b vs t := (hf.block b h.lt hs).trans h
theorem Blk.fr0 (h : Blk w b vs t) (hf : Fr0 w w') : Blk w' b vs t := Blk.fr h hf (fun h => h)
theorem Blk.fr1 (h : Blk w b vs t) {c : Nat} (hf : Fr1 c w w') (hs : b ≠ c) : Blk w' b vs t := Blk.fr h hf hs
theorem Blk.drewN (h : Blk w b vs t) (n : Nat) : Blk (w.drewN n) b vs t := h
theorem Blk.drew (h : Blk w b vs t) : Blk w.drew b vs t := h
theorem Blk.alloc (h : Blk w b vs t) (o : Obj) : Blk (w.alloc o) b vs t := (Below.heap_alloc w o b h.lt).trans h
theorem Blk.new (w : World) (vs : Array Value) (t : TypeId) : Blk (w.alloc (.cells vs t)) w.heap.size vs t := heap_alloc_new w _
theorem Blk.set (h : Blk w b vs t) (k : Nat) (u : Value) : Blk (w.setCell ⟨b, k, none⟩ u) b (vs.setIfInBounds k u) t := by
  have hlt := h.lt
  have h' : w.heap[b] = .cells vs t (0, 0) := by simpa [Blk, Array.getElem?_eq_getElem hlt] using h
  show (w.heap.modify b _)[b]? = _
  rw [Array.getElem?_eq_getElem (by simpa using hlt), Array.getElem_modify_self, h']
  rfl
theorem Blk.other (h : Blk w b vs t) {p : Addr} (hp : b ≠ p.block) (u : Value) : Blk (w.setCell p u) b vs t := (Below.heap_setCell w p u b hp).trans h
theorem Blk.ne (h : Blk w b vs t) {c : Nat} {us : Array Value} {t' : TypeId} (h' : Blk w c us t') (ht : t ≠ t') : b ≠ c := by
  rintro rfl
  unfold Blk at h h'
  rw [h] at h'
  injection h' with h'
  injection h' with _ h'
  exact ht h'
end

/-- A slice value reads as rows: cells xs of n elements of 'size' cells each. -/
structure Rd (w : World) (size : Nat) (v : Value) (n : Nat) (xs : List Value) : Prop where
  len : xs.length = n * size
  form : ∃ A c, v = .slice A n c ∧ n ≤ c ∧ c ≤ maxLen ∧ (A = none → c = 0)
  cells : 0 < n → ∃ g off c cur t fz, v = .slice (some ⟨g, off, none⟩) n c ∧ w.heap[g]? = some (.cells cur t fz) ∧ ∀ j u, xs[j]? = some u → cur[off + j]? = some u

section
variable {S : Nat → Prop} {w w' : World} {t : TypeId} {size n : Nat} {v : Value} {xs : List Value}
/-- The block that a slice lies in. -/
def Value.blk : Value → Option Nat
  | .slice (some a) _ _ => some a.block
  | _ => none
theorem Rd.fr (h : Rd w size v n xs) (hf : Fr S w w') (hs : 0 < n → ∀ g, Value.blk v = some g → ¬ S g) : Rd w' size v n xs :=
  ⟨h.len, h.form, fun hn => by
    obtain ⟨g, off, c, cur, t, fz, hv, hb, hc⟩ := h.cells hn
    exact ⟨g, off, c, cur, t, fz, hv, (hf.block g (lt_of_block hb) (hs hn g (by rw [hv]; rfl))).trans hb, hc⟩⟩
theorem Rd.fr0 (h : Rd w size v n xs) (hf : Fr0 w w') : Rd w' size v n xs := h.fr hf (fun _ _ _ h => h)
theorem Rd.fr1 (h : Rd w size v n xs) {b : Nat} (hf : Fr1 b w w') (hs : 0 < n → Value.blk v ≠ some b) : Rd w' size v n xs := h.fr hf (fun hn g hg e => hs hn (by rw [hg, e]))
theorem Rd.blk_lt (h : Rd w size v n xs) (hn : 0 < n) : ∀ g, Value.blk v = some g → g < w.heap.size := by
  obtain ⟨g, off, c, cur, t, fz, rfl, hb, _⟩ := h.cells hn
  intro g' hg
  cases hg
  exact lt_of_block hb
theorem Rd.nil (w : World) (size : Nat) : Rd w size (.slice none 0 0) 0 [] :=
  ⟨by simp, ⟨none, 0, rfl, by omega, by simp [maxLen], fun _ => rfl⟩, fun h => absurd h (by omega)⟩
theorem Rd.cellAt (h : Rd w size v n xs) {i : Nat} (hi : i < n) : ∃ g off c, v = .slice (some ⟨g, off, none⟩) n c ∧ i < c ∧ g < w.heap.size ∧ ∀ j u, xs[i * size + j]? = some u → w.cell? ⟨g, off + i * size + j, none⟩ = some u := by
  obtain ⟨g, off, c, cur, t, fz, hv, hb, hc⟩ := h.cells (by omega)
  obtain ⟨A, c', hv', hnc, _, _⟩ := h.form
  rw [hv] at hv'
  injection hv' with _ _ hcc
  refine ⟨g, off, c, hv, by omega, lt_of_block hb, fun j u hu => ?_⟩
  have := hc _ u hu
  simp [World.cell?, hb]
  rw [← this]
  congr 1
  omega
theorem Rd.le63 (h : Rd w size v n xs) : n ≤ 9223372036854775807 := by
  obtain ⟨_, c, _, h1, h2, _⟩ := h.form
  unfold maxLen at h2
  omega
theorem Rd.cellA {A : Option Addr} {c : Nat} (h : Rd w size (.slice A n c) n xs) {i : Nat} (hi : i < n) : ∃ g off, A = some ⟨g, off, none⟩ ∧ i < c ∧ g < w.heap.size ∧ ∀ j u, xs[i * size + j]? = some u → w.cell? ⟨g, off + i * size + j, none⟩ = some u := by
  obtain ⟨g, off, c', hv, h1, h2, h3⟩ := h.cellAt hi
  injection hv with hA _ hc
  subst hc
  exact ⟨g, off, hA, h1, h2, h3⟩
theorem Rd.cellG {g off c : Nat} (h : Rd w size (.slice (some ⟨g, off, none⟩) n c) n xs) {i j : Nat} (hi : i < n) {u : Value} (hu : xs[i * size + j]? = some u) : w.cell? ⟨g, off + i * size + j, none⟩ = some u := by
  obtain ⟨g', off', hA, _, _, h3⟩ := h.cellA hi
  injection hA with hA
  injection hA with h1 h2
  subst h1 h2
  exact h3 j u hu
theorem Rd.news {a : Addr} {c : Nat} (h : Rd w size (.slice (some a) n c) n xs) : ∀ j u, xs[j]? = some u → w.cell? (a.add j) = some u := by
  intro j u hu
  have hn : 0 < n := by
    rcases Nat.eq_zero_or_pos n with h0 | h0
    · subst h0
      have := h.len
      have hx : xs = [] := List.eq_nil_of_length_eq_zero (by simpa using this)
      rw [hx] at hu
      cases hu
    · exact h0
  obtain ⟨g, off, c', cur, t, fz, hv, hb, hc⟩ := h.cells hn
  injection hv with hA _ _
  injection hA with hA
  subst hA
  have hadd : (⟨g, off, none⟩ : Addr).add j = ⟨g, off + j, none⟩ := by unfold Addr.add; split <;> simp_all
  rw [hadd]
  simp [World.cell?, hb, hc j u hu]
theorem own_empty {g : Nat} {base : Nat} (hg : w.heap[g]? = some (.cells #[] t (0, 0))) (hb : base ≤ g) : w.ownsRow base t size (.slice (some ⟨g, 0, none⟩) 0 0) 0 [] :=
  ⟨by simp, .inr ⟨g, 0, #[], rfl, hb, hg, Nat.le_refl _, by simp [maxLen], by simp, by simp⟩⟩
theorem Rd.of_own {base : Nat} (h : w.ownsRow base t size v n xs) : Rd w size v n xs := by
  refine ⟨h.1, ?_, fun hn => ?_⟩
  · rcases h.2 with ⟨rfl, rfl⟩ | ⟨g, cap, cur, rfl, _, _, h1, h2, _⟩
    · exact ⟨none, 0, rfl, by omega, by simp [maxLen], fun _ => rfl⟩
    · exact ⟨_, cap, rfl, h1, h2, fun h => by cases h⟩
  · rcases h.2 with ⟨rfl, rfl⟩ | ⟨g, cap, cur, rfl, _, hb, _, _, _, ht⟩
    · exact absurd hn (by omega)
    · refine ⟨g, 0, cap, cur, _, _, rfl, hb, fun j u hu => ?_⟩
      rw [← ht, List.getElem?_take] at hu
      split at hu
      · simpa using hu
      · cases hu
theorem own_of_block {g cap k : Nat} {cur : Array Value} {base : Nat} (hg : w.heap[g]? = some (.cells cur t (0, 0))) (hb : base ≤ g) (hk : k ≤ cap) (hm : cap ≤ maxLen) (hs : cur.size = cap * size) :
    w.ownsRow base t size (.slice (some ⟨g, 0, none⟩) k cap) k (cur.toList.take (k * size)) :=
  ⟨by rw [List.length_take, Array.length_toList, hs]; exact Nat.min_eq_left (Nat.mul_le_mul_right _ hk), .inr ⟨g, cap, cur, rfl, hb, hg, hk, hm, hs, rfl⟩⟩
theorem Rd.take (h : Rd w size v n xs) {k : Nat} (hk : k ≤ n) {A : Option Addr} {c : Nat} (hv : v = .slice A n c) : Rd w size (.slice A k c) k (xs.take (k * size)) := by
  obtain ⟨A', c', hv', hnc, hm, hnone⟩ := h.form
  rw [hv] at hv'
  injection hv' with hA _ hcc
  subst hA hcc
  refine ⟨?_, ⟨A, c, rfl, by omega, hm, hnone⟩, fun hn => ?_⟩
  · rw [List.length_take, h.len]; exact Nat.min_eq_left (Nat.mul_le_mul_right _ hk)
  · obtain ⟨g, off, c', cur, t, fz, hv2, hb, hc⟩ := h.cells (by omega)
    rw [hv] at hv2
    injection hv2 with hA _ hcc
    subst hA hcc
    refine ⟨g, off, c, cur, t, fz, rfl, hb, fun j u hu => hc j u ?_⟩
    rw [List.getElem?_take] at hu
    split at hu
    · exact hu
    · cases hu
/-- 'v[k:]', as the model writes it. -/
theorem Rd.drop (h : Rd w size v n xs) {k : Nat} (hk : k ≤ n) {A : Option Addr} {c : Nat} (hv : v = .slice A n c) :
    Rd w size (.slice (if c = k then A else A.map (·.add (k * size))) (n - k) (c - k)) (n - k) (xs.drop (k * size)) := by
  obtain ⟨A', c', hv', hnc, hm, hnone⟩ := h.form
  rw [hv] at hv'
  injection hv' with hA _ hcc
  subst hA hcc
  refine ⟨?_, ⟨_, _, rfl, by omega, by omega, fun h => ?_⟩, fun hn => ?_⟩
  · rw [List.length_drop, h.len, Nat.sub_mul]
  · by_cases hck : c = k
    · omega
    · rw [if_neg hck] at h
      have := hnone (by cases A <;> simp_all)
      omega
  · obtain ⟨g, off, c', cur, t, fz, hv2, hb, hc⟩ := h.cells (by omega)
    rw [hv] at hv2
    injection hv2 with hA _ hcc
    subst hA hcc
    rw [if_neg (by omega)]
    have hadd : (⟨g, off, none⟩ : Addr).add (k * size) = ⟨g, off + k * size, none⟩ := by unfold Addr.add; split <;> simp_all
    refine ⟨g, off + k * size, c - k, cur, t, fz, by simp [hadd], hb, fun j u hu => ?_⟩
    rw [Nat.add_assoc]
    exact hc _ u (by rw [← hu, List.getElem?_drop])
theorem Rd.dropAt {g off c : Nat} (h : Rd w size (.slice (some ⟨g, off, none⟩) n c) n xs) {k : Nat} (hk : k ≤ n) (hc : k < c) :
    Rd w size (.slice (some ⟨g, off + k * size, none⟩) (n - k) (c - k)) (n - k) (xs.drop (k * size)) := by
  have := h.drop hk rfl
  rw [if_neg (by omega)] at this
  have hadd : (⟨g, off, none⟩ : Addr).add (k * size) = ⟨g, off + k * size, none⟩ := by unfold Addr.add; split <;> simp_all
  simpa [hadd] using this
theorem own_fr {base : Nat} (h : w.ownsRow base t size v n xs) (hf : Fr S w w') (hs : ∀ g, v.ownBlock = some g → ¬ S g) : w'.ownsRow base t size v n xs := by
  refine ⟨h.1, ?_⟩
  rcases h.2 with hn | ⟨g, cap, cur, rfl, hb, hgg, rest⟩
  · exact .inl hn
  · exact .inr ⟨g, cap, cur, rfl, hb, (hf.block g (lt_of_block hgg) (hs g rfl)).trans hgg, rest⟩
theorem own_form {base : Nat} (h : w.ownsRow base t size v n xs) : ∃ A c, v = .slice A n c ∧ n ≤ c ∧ c ≤ maxLen ∧ (A = none → c = 0) := (Rd.of_own h).form
theorem own_apart {base : Nat} (h : w.ownsRow base t size v n xs) {b : Nat} {vs : Array Value} {t' : TypeId} (hb : Blk w b vs t') (ht : t ≠ t') : Value.blk v ≠ some b := by
  rintro hg
  rcases h.2 with ⟨rfl, _⟩ | ⟨g', cap, cur, rfl, _, hgg, _⟩
  · cases hg
  · cases hg
    unfold Blk at hb
    rw [hgg] at hb
    injection hb with hb
    injection hb with _ hb
    exact ht hb
theorem own_two {base base' size' n' : Nat} {t' : TypeId} {v' : Value} {xs' : List Value} (h : w.ownsRow base t size v n xs) (h' : w.ownsRow base' t' size' v' n' xs') (ht : t ≠ t') : v.ownBlock = none ∨ v.ownBlock ≠ v'.ownBlock := by
  rcases h.2 with ⟨rfl, _⟩ | ⟨g, cap, cur, rfl, _, hh, _⟩
  · exact .inl rfl
  · refine .inr fun hk => ?_
    rcases h'.2 with ⟨rfl, _⟩ | ⟨g', cap', cur', rfl, _, hh', _⟩
    · cases hk
    · cases hk
      rw [hh] at hh'
      injection hh' with hh'
      injection hh' with _ e
      exact ht e
theorem own_lt' {base : Nat} (h : w.ownsRow base t size v n xs) : ∀ k, v.ownBlock = some k → base ≤ k ∧ k < w.heap.size := h.lt
theorem own_ne {base : Nat} (h : w.ownsRow base t size v n xs) {b : Nat} {vs : Array Value} {t' : TypeId} (hb : Blk w b vs t') (ht : t ≠ t') : ∀ g, v.ownBlock = some g → g ≠ b := by
  rintro g hg rfl
  rcases h.2 with ⟨rfl, _⟩ | ⟨g', cap, cur, rfl, _, hgg, _⟩
  · cases hg
  · cases hg
    unfold Blk at hb
    rw [hgg] at hb
    injection hb with hb
    injection hb with _ hb
    exact ht hb
end

/-- The block that a slice lies in holds elements of type t. -/
def TyB (w : World) (v : Value) (t : TypeId) : Prop := ∀ g, Value.blk v = some g → ∃ cur fz, w.heap[g]? = some (.cells cur t fz)
section
variable {S : Nat → Prop} {w w' : World} {v : Value} {t t' : TypeId} {b : Nat} {vs : Array Value}
theorem TyB.fr (h : TyB w v t) (hf : Fr S w w') (hs : ∀ g, Value.blk v = some g → ¬ S g) : TyB w' v t := fun g hg => by
  obtain ⟨cur, fz, hb⟩ := h g hg
  exact ⟨cur, fz, (hf.block g (lt_of_block hb) (hs g hg)).trans hb⟩
theorem TyB.fr0 (h : TyB w v t) (hf : Fr0 w w') : TyB w' v t := h.fr hf (fun _ _ h => h)
theorem TyB.ne (h : TyB w v t) (hb : Blk w b vs t') (ht : t ≠ t') : Value.blk v ≠ some b := fun hg => by
  obtain ⟨cur, fz, hc⟩ := h b hg
  unfold Blk at hb
  rw [hc] at hb
  injection hb with hb
  injection hb with _ e
  exact ht e
theorem TyB.fr1 (h : TyB w v t) (hf : Fr1 b w w') (hb : Blk w b vs t') (ht : t ≠ t') : TyB w' v t := h.fr hf (fun g hg e => h.ne hb ht (by rw [hg, e]))
theorem TyB.lt (h : TyB w v t) : ∀ g, Value.blk v = some g → g < w.heap.size := fun g hg => by
  obtain ⟨cur, fz, hc⟩ := h g hg
  exact lt_of_block hc
theorem TyB.of_own {base size n : Nat} {xs : List Value} (h : w.ownsRow base t size v n xs) : TyB w v t := fun g hg => by
  rcases h.2 with ⟨rfl, _⟩ | ⟨g', cap, cur, rfl, _, hgg, _⟩
  · cases hg
  · cases hg; exact ⟨_, _, hgg⟩
theorem TyB.nil (w : World) (t : TypeId) : TyB w (.slice none 0 0) t := fun g hg => by cases hg
theorem Rd.frT {size n : Nat} {xs : List Value} (h : Rd w size v n xs) (hy : TyB w v t) (hf : Fr1 b w w') (hb : Blk w b vs t') (ht : t ≠ t') : Rd w' size v n xs := h.fr1 hf (fun _ => hy.ne hb ht)
end
end Go.Proofs.Ytgcjbbliaelkcaa
