/- What is done with a sender, one thing after the other: the rows that come in, and what stays small. Conditions stand in the statements. -/
import Derived.Test.YtomdlfeaecknfaaOutKnown
import Derived.Test.YtomdlfeaecknfaaOutLaw3
import Derived.Test.YtomdlfeaecknfaaArgsOf
namespace Go.Proofs.Ytomdlfeaecknfaa
open Go.RowKit Go.ChangeShapes Go.WideShapes Go.ChangeAt Go.Deep

/-- A thing that is done. -/
structure OpD where
  kind : Int
  now : Int
  wait : Int
  n : Int
  s : ByteArray
def opC (x : OpD) : List Value := [.int .i64 x.kind, .int .i64 x.now, .int .i64 x.wait, .int .i64 x.n, .string x.s]
theorem opC_len (x : OpD) : (opC x).length = 5 := rfl
def OpIn (x : OpD) : Prop := (-9223372036854775808 ≤ x.kind ∧ x.kind ≤ 9223372036854775807) ∧ x.s.size ≤ maxLen
theorem op_cells {w : World} {v : Value} {l : List OpD} (h : Rd w 5 v l.length (flat opC l)) {k : Nat} (hk : k < l.length) : ∃ g off c, v = .slice (some ⟨g, off, none⟩) l.length c ∧
    w.cell? ⟨g, off + k * 5, none⟩ = some (.int .i64 l[k].kind) ∧ w.cell? ⟨g, off + k * 5 + 1, none⟩ = some (.int .i64 l[k].now) ∧ w.cell? ⟨g, off + k * 5 + 2, none⟩ = some (.int .i64 l[k].wait) ∧ w.cell? ⟨g, off + k * 5 + 3, none⟩ = some (.int .i64 l[k].n) ∧ w.cell? ⟨g, off + k * 5 + 4, none⟩ = some (.string l[k].s) := by
  obtain ⟨g, off, c, hv, hic, hg, hc⟩ := h.cellAt hk
  have f := fun j (hj : j < 5) => flat_at opC_len l k hk hj
  refine ⟨g, off, c, hv, ?_, ?_, ?_, ?_, ?_⟩
  · have := hc 0 _ (f 0 (by omega)); simpa using this
  · exact hc 1 _ (f 1 (by omega))
  · exact hc 2 _ (f 2 (by omega))
  · exact hc 3 _ (f 3 (by omega))
  · exact hc 4 _ (f 4 (by omega))

/-- Texts of at most so many bytes. -/
def Small (B : Nat) (o : OutD) : Prop := o.now.size ≤ B ∧ ∀ x ∈ o.all, x.s.size ≤ B
theorem small_new {B : Nat} {s : ByteArray} (h : s.size ≤ B) : Small B (outNew s) := ⟨h, fun x hx => by simp [outNew] at hx; subst hx; exact h⟩
theorem small_set {B : Nat} {o : OutD} (h : Small B o) {s : ByteArray} (hs : s.size ≤ B) : Small B (withNow o s) := ⟨hs, h.2⟩
theorem small_heard {B : Nat} {o : OutD} (h : Small B o) (ack : Int) : Small B (heardP o ack) := by
  unfold heardP
  split
  · exact ⟨h.1, fun x hx => h.2 x (List.mem_of_mem_drop hx)⟩
  · exact h
theorem small_pick {B : Nat} {o : OutD} (h : Small B o) (hok : OutOk o) {now wait ack : Int} {t : Told} (ht : pickP o now wait ack = some t) : ∀ x ∈ t.all, x.s.size ≤ B := by
  rcases pickP_some ht with h1 | ⟨-, h1⟩ | ⟨-, -, h1⟩
  · obtain ⟨-, e, -⟩ := stateP_some h1
    rw [e]
    intro x hx
    simp only [sentMore, List.mem_append, List.mem_singleton] at hx
    rcases hx with hx | rfl
    · exact h.2 x hx
    · exact h.1
  · obtain ⟨-, -, e⟩ := againP_some h1
    rw [e]
    intro x hx
    simp only [setLast, List.mem_append, List.mem_singleton] at hx
    rcases hx with hx | rfl
    · exact h.2 x (List.mem_of_mem_take hx)
    · exact h.2 (lastS o.all) (lastS_mem hok.pos)
  · obtain ⟨-, e⟩ := wordP_some h1
    rw [e]
    exact h.2
theorem small_told {B : Nat} {o : OutD} (h : Small B o) (hok : OutOk o) (now wait ack : Int) : Small B (toldP o now wait ack) := by
  unfold toldP
  cases e : tellP o now wait ack with
  | none => exact h
  | some t => exact ⟨h.1, small_pick h hok (tellP_asked e).2⟩

/-- Tell, its values under names. -/
def TellG (fs fd : Value) (p : Nat) (o : OutD) (now wait ack : Int) (w : World) (e : Ending) (w' : World) : Prop :=
  ∃ (ok : Bool) (a b m r : Int) (Ad : Option Addr) (n cd : Nat) (A : Option Addr) (c : Nat), e = .returned (.tuple #[.agg #[.int .i64 a, .int .i64 b, .int .i64 m, .int .i64 r, .slice Ad n cd], .bool ok]) ∧ Fr1 p w w' ∧ OutV w' p fs fd A c (toldP o now wait ack) ∧
    Hid ((ok = true ∧ ∃ t, tellP o now wait ack = some t ∧ a = t.old ∧ b = t.new ∧ m = ack ∧ r = (baseS o.all).n ∧ n = t.d.length ∧ RdB w' (.slice Ad n cd) t.d ∧ TyB w' (.slice Ad n cd) 5) ∨ (ok = false ∧ tellP o now wait ack = none ∧ a = 0 ∧ b = 0 ∧ m = 0 ∧ r = 0 ∧ Ad = none ∧ n = 0 ∧ cd = 0))
theorem tell_g {p : Nat} {fs fd : Value} {A : Option Addr} {c : Nat} {o : OutD} {w : World} (hs : SameFn fs) (hd : DiffFn fd) (h : OutV w p fs fd A c o) (hok : OutOk o) (hsm : Small 100000 o) (now wait ack : Int) :
    Calls Try.prog 12 #[.pointer (some ⟨p, 0, none⟩), .int .i64 now, .int .i64 wait, .int .i64 ack] w fun e w' => TellG fs fd p o now wait ack w e w' := by
  refine (tell_any hs hd h hok hsm.2 hsm.1 now wait ack).mono ?_
  rintro e w' ⟨hf, hm⟩
  unfold TellG toldP
  cases ht : tellP o now wait ack with
  | none =>
    rw [ht] at hm
    obtain ⟨rfl, A, c, ho⟩ := hm
    exact ⟨false, 0, 0, 0, 0, none, 0, 0, A, c, rfl, hf, ho, Lib.hid (.inr ⟨rfl, rfl, rfl, rfl, rfl, rfl, rfl, rfl, rfl⟩)⟩
  | some t =>
    rw [ht] at hm
    obtain ⟨A, c, Ad, cd, rfl, ho, h1, h2⟩ := hm
    exact ⟨true, _, _, _, _, Ad, _, cd, A, c, rfl, hf, ho, Lib.hid (.inl ⟨rfl, t, rfl, rfl, rfl, rfl, rfl, rfl, h1, h2⟩)⟩
theorem tell_t {o : OutD} {now wait ack : Int} {t : Told} {p : Nat} {fs fd : Value} {A : Option Addr} {c : Nat} {w : World} (hs : SameFn fs) (hd : DiffFn fd) (h : OutV w p fs fd A c o) (hok : OutOk o) (hsm : Small 100000 o) (ht : tellP o now wait ack = some t) :
    Calls Try.prog 12 #[.pointer (some ⟨p, 0, none⟩), .int .i64 now, .int .i64 wait, .int .i64 ack] w fun e w' => ∃ A c Ad cd, e = .returned (.tuple #[.agg #[.int .i64 t.old, .int .i64 t.new, .int .i64 ack, .int .i64 (baseS o.all).n, .slice Ad t.d.length cd], .bool true]) ∧ Fr1 p w w' ∧ OutV w' p fs fd A c (afterP o now ack t) ∧ RdB w' (.slice Ad t.d.length cd) t.d ∧ TyB w' (.slice Ad t.d.length cd) 5 := by
  refine (tell_any hs hd h hok hsm.2 hsm.1 now wait ack).mono ?_
  rintro e w' ⟨hf, hm⟩
  rw [ht] at hm
  obtain ⟨A, c, Ad, cd, rfl, ho, h1, h2⟩ := hm
  exact ⟨A, c, Ad, cd, rfl, hf, ho, h1, h2⟩
theorem small_up {B C : Nat} {o : OutD} (h : Small B o) (hb : B ≤ C) : Small C o := ⟨Nat.le_trans h.1 hb, fun x hx => Nat.le_trans (h.2 x hx) hb⟩
section
variable {P : Program} {H : Type} {enc : TypeId × Value → H} {w : World} {base : Nat} {spare : Nat → Bool} {held : Bool}
theorem read_op {e ts : TypeId} {fs : Array Field} {n : Nat} {cs : List Value} {x : DataW H × List MemPlace} (he : P.underlying e = some (.struct fs))
    (hone : oneCellFields P fs = true) (hC : P.cellsOf e = 5) (hint : ∀ j, j < 4 → ∃ f, fs[j]? = some f ∧ P.underlying f.type = some (.int .i64)) (hsl : ∃ f, fs[4]? = some f ∧ f.type = ts) (hts : P.underlying ts = some .string)
    (h : DataW.trod enc P w base spare held n e cs = some x) : ∃ y : OpD, cs = opC y ∧ OpIn y := by
  obtain ⟨hlen, hf⟩ := read_fields he hone hC h
  match cs, hlen with
  | [c0, c1, c2, c3, c4], _ =>
    have ints : ∀ j (hj : j < 4), ∃ m : Int, [c0, c1, c2, c3, c4][j]'(by simp; omega) = .int .i64 m ∧ -9223372036854775808 ≤ m ∧ m ≤ 9223372036854775807 := by
      intro j hj
      obtain ⟨f, hfj, hu⟩ := hint j hj
      obtain ⟨m, y, hy⟩ := hf j (by simp; omega) f hfj
      exact read_int hu hy
    obtain ⟨f4, hf4, hty⟩ := hsl
    obtain ⟨m, y4, hy4⟩ := hf 4 (by simp) f4 hf4
    rw [hty] at hy4
    obtain ⟨s, hs, hm⟩ := read_string hts hy4
    obtain ⟨n0, h0, b0⟩ := ints 0 (by omega)
    obtain ⟨n1, h1, -⟩ := ints 1 (by omega)
    obtain ⟨n2, h2, -⟩ := ints 2 (by omega)
    obtain ⟨n3, h3, -⟩ := ints 3 (by omega)
    simp at h0 h1 h2 h3 hs
    exact ⟨⟨n0, n1, n2, n3, s⟩, by rw [h0, h1, h2, h3, hs]; rfl, b0, hm⟩
end
end Go.Proofs.Ytomdlfeaecknfaa
