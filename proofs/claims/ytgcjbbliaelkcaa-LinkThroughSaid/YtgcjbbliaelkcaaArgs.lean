/- What a law's arguments read as: bytes, rows of numbers, instructions. Conditions stand in the statements. -/
import Derived.Test.YtgcjbbliaelkcaaRows
import Derived.Test.YtgcjbbliaelkcaaBytes
import Derived.WalkKit
import Derived.ProofKit
import Derived.OpenShut
import Derived.ShutString
import Derived.ChangeOld
import Derived.Deep.Slices
import Derived.Deep.Fields
namespace Go.Proofs.Ytgcjbbliaelkcaa
open Go.ChangeShapes Go.WideShapes Go.ChangeAt Go.RowKit Go.Deep

theorem rd_of_cells {w : World} {size n c : Nat} {a : Addr} {xs : List Value} (hl : xs.length = n * size) (hs : 0 < size) (hnc : n ≤ c) (hm : c ≤ maxLen)
    (h : ∀ j u, xs[j]? = some u → w.cell? (a.add j) = some u) : Rd w size (.slice (some a) n c) n xs := by
  refine ⟨hl, ⟨_, _, rfl, hnc, hm, fun h => by cases h⟩, fun hn => ?_⟩
  have hpos : 0 < xs.length := by rw [hl]; exact Nat.mul_pos hn hs
  have h0 := h 0 _ (List.getElem?_eq_getElem hpos)
  obtain ⟨g, off, spot⟩ := a
  have hz : (⟨g, off, spot⟩ : Addr).add 0 = ⟨g, off, spot⟩ := by simp [Addr.add]
  rw [hz] at h0
  have hspot : spot = none := by
    cases spot with
    | none => rfl
    | some s =>
      unfold World.cell? at h0
      cases hb : w.heap[g]? with
      | none => simp [hb] at h0
      | some o => cases o <;> simp [hb] at h0
  subst hspot
  cases hb : w.heap[g]? with
  | none => simp [World.cell?, hb] at h0
  | some o =>
    cases o with
    | cells cur t fz =>
      refine ⟨g, off, c, cur, t, fz, rfl, hb, fun j u hu => ?_⟩
      have := h j u hu
      have hadd : (⟨g, off, none⟩ : Addr).add j = ⟨g, off + j, none⟩ := by unfold Addr.add; split <;> simp_all
      rw [hadd] at this
      simpa [World.cell?, hb] using this
    | _ => simp [World.cell?, hb] at h0

section
variable {H : Type} {enc : TypeId × Value → H} {P : Program} {w : World} {base : Nat} {spare : Nat → Bool} {held : Bool}

theorem byte_of {n : Int} (h : (Lit.int .u8 n).wf = true) : ((UInt8.ofNat n.toNat).toNat : Int) = n := by
  have hx : 0 ≤ n ∧ n ≤ 255 := by simpa [Lit.wf, IntKind.min, IntKind.max, IntKind.signed, IntKind.bits] using h
  rw [UInt8.toNat_ofNat']
  omega

theorem arg_bytes {t e : TypeId} {fuel : Nat} {v : Value} {x : DataW H × List MemPlace} (ht : P.underlying t = some (.slice e)) (he : P.underlying e = some (.int .u8)) (hc : P.cellsOf e = 1)
    (h : DataW.trod enc P w base spare held fuel t [v] = some x) : ∃ d : List UInt8, RdB w v d := by
  rcases open_ints ht he hc h with ⟨hcs, _⟩ | ⟨a, l, c, zs, hcs, _, hl, hm, hz, _, hcell, hwz⟩
  · simp at hcs
    subst hcs
    exact ⟨[], RdB.nil w⟩
  · simp at hcs
    subst hcs
    have hzl : l ≤ zs.length := by rw [hz]; split <;> omega
    have hd : byts ((zs.take l).map fun n => UInt8.ofNat n.toNat) = (zs.take l).map (Value.int .u8) := by
      unfold byts
      rw [List.map_map]
      apply List.map_congr_left
      intro n hn
      simp only [Function.comp]
      rw [byte_of (hwz n (List.mem_of_mem_take hn))]
    have hlen : ((zs.take l).map fun n => UInt8.ofNat n.toNat).length = l := by rw [List.length_map, List.length_take]; omega
    refine ⟨(zs.take l).map fun n => UInt8.ofNat n.toNat, ?_⟩
    unfold RdB
    rw [hlen, hd]
    refine rd_of_cells (by simp; omega) (by omega) hl hm fun j u hu => ?_
    rw [List.getElem?_map] at hu
    cases hj : (zs.take l)[j]? with
    | none => simp [hj] at hu
    | some z =>
      simp [hj] at hu
      subst hu
      rw [List.getElem?_take] at hj
      split at hj
      · rename_i hjl
        have := hcell j (by omega)
        rw [this, List.getD_eq_getElem?_getD, hj]
        rfl
      · cases hj

theorem arg_ints {t e : TypeId} {fuel : Nat} {v : Value} {x : DataW H × List MemPlace} (ht : P.underlying t = some (.slice e)) (he : P.underlying e = some (.int .i64)) (hc : P.cellsOf e = 1)
    (h : DataW.trod enc P w base spare held fuel t [v] = some x) : ∃ z : List Int, Rd w 1 v z.length (icells z) := by
  rcases open_ints ht he hc h with ⟨hcs, _⟩ | ⟨a, l, c, zs, hcs, _, hl, hm, hz, _, hcell, hwz⟩
  · simp at hcs
    subst hcs
    exact ⟨[], Rd.nil w 1⟩
  · simp at hcs
    subst hcs
    have hzl : l ≤ zs.length := by rw [hz]; split <;> omega
    have hlen : (zs.take l).length = l := by rw [List.length_take]; omega
    refine ⟨zs.take l, ?_⟩
    rw [hlen]
    refine rd_of_cells (by simp [icells]; omega) (by omega) hl hm fun j u hu => ?_
    simp only [icells, List.getElem?_map] at hu
    cases hj : (zs.take l)[j]? with
    | none => simp [hj] at hu
    | some z =>
      simp [hj] at hu
      subst hu
      rw [List.getElem?_take] at hj
      split at hj
      · rename_i hjl
        have := hcell j (by omega)
        rw [this, List.getD_eq_getElem?_getD, hj]
        rfl
      · cases hj

/-- An instruction that came in. -/
structure InsD where
  old : Int
  new : Int
  ack : Int
  trash : Int
  dv : Value
  d : List UInt8
def insCells (l : List InsD) : List Value := l.flatMap fun x => [.int .i64 x.old, .int .i64 x.new, .int .i64 x.ack, .int .i64 x.trash, x.dv]
theorem insCells_len (l : List InsD) : (insCells l).length = l.length * 5 := by
  induction l with
  | nil => rfl
  | cons x r ih => simp [insCells] at *; omega
theorem insCells_at (l : List InsD) (i : Nat) (hi : i < l.length) : (insCells l)[i * 5]? = some (.int .i64 l[i].old) ∧ (insCells l)[i * 5 + 1]? = some (.int .i64 l[i].new) ∧ (insCells l)[i * 5 + 2]? = some (.int .i64 l[i].ack) ∧
    (insCells l)[i * 5 + 3]? = some (.int .i64 l[i].trash) ∧ (insCells l)[i * 5 + 4]? = some l[i].dv := by
  induction l generalizing i with
  | nil => simp at hi
  | cons x r ih =>
    cases i with
    | zero => simp [insCells]
    | succ i =>
      have := ih i (by simpa using hi)
      simp only [insCells, List.flatMap_cons, List.getElem_cons_succ] at *
      refine ⟨?_, ?_, ?_, ?_, ?_⟩
      · rw [show (i + 1) * 5 = (i * 5) + 5 from by omega]; simpa using this.1
      · rw [show (i + 1) * 5 + 1 = (i * 5 + 1) + 5 from by omega]; simpa using this.2.1
      · rw [show (i + 1) * 5 + 2 = (i * 5 + 2) + 5 from by omega]; simpa using this.2.2.1
      · rw [show (i + 1) * 5 + 3 = (i * 5 + 3) + 5 from by omega]; simpa using this.2.2.2.1
      · rw [show (i + 1) * 5 + 4 = (i * 5 + 4) + 5 from by omega]; simpa using this.2.2.2.2

structure InsArg (w : World) (v : Value) (l : List InsD) : Prop where
  rd : Rd w 5 v l.length (insCells l)
  each : ∀ x ∈ l, RdB w x.dv x.d
theorem InsArg.fr0 {w w' : World} {v : Value} {l : List InsD} (h : InsArg w v l) (hf : Fr0 w w') : InsArg w' v l := ⟨h.rd.fr0 hf, fun x hx => (h.each x hx).fr0 hf⟩

theorem read_instr {e tb eb : TypeId} {fs : Array Field} {n : Nat} {cs : List Value} {x : DataW H × List MemPlace} (he : P.underlying e = some (.struct fs))
    (hone : oneCellFields P fs = true) (hC : P.cellsOf e = 5) (hint : ∀ j, j < 4 → ∃ f, fs[j]? = some f ∧ P.underlying f.type = some (.int .i64)) (hsl : ∃ f, fs[4]? = some f ∧ f.type = tb)
    (htb : P.underlying tb = some (.slice eb)) (heb : P.underlying eb = some (.int .u8)) (hcb : P.cellsOf eb = 1)
    (h : DataW.trod enc P w base spare held n e cs = some x) : ∃ y : InsD, cs = [.int .i64 y.old, .int .i64 y.new, .int .i64 y.ack, .int .i64 y.trash, y.dv] ∧ RdB w y.dv y.d := by
  obtain ⟨ys, n', hn', hy, hlen, hyl, hf⟩ := DataW.trod_struct he h
  rw [hC] at hlen
  match cs, hlen with
  | [c0, c1, c2, c3, c4], _ =>
    have field : ∀ j f, fs[j]? = some f → ∀ (hj5 : j < 5), ∃ y, DataW.trod enc P w base spare held n' f.type [[c0, c1, c2, c3, c4][j]] = some y := by
      intro j f hj hj5
      obtain ⟨ho, hk⟩ := hone_of hone j f hj
      have h1 := hf j f hj
      rw [ho, hk] at h1
      have hone' : ([c0, c1, c2, c3, c4].drop j).take 1 = [[c0, c1, c2, c3, c4][j]] := by
        rw [List.drop_eq_getElem_cons (by simpa using hj5)]
        rfl
      rw [hone'] at h1
      have hjl : j < fs.size := (Array.getElem?_eq_some_iff.1 hj).1
      exact ⟨ys[j]'(by omega), h1.trans (List.getElem?_eq_getElem (by omega))⟩
    have ints : ∀ j (hj : j < 4), ∃ n, [c0, c1, c2, c3, c4][j]'(by simp; omega) = .int .i64 n := by
      intro j hj
      obtain ⟨f, hfj, hu⟩ := hint j hj
      obtain ⟨y, hy⟩ := field j f hfj (by omega)
      obtain ⟨k, hk, _⟩ := DataW.trod_int hu hy
      simp only [List.cons.injEq, and_true] at hk
      exact ⟨k, hk⟩
    obtain ⟨f4, hf4, hty⟩ := hsl
    obtain ⟨y4, hy4⟩ := field 4 f4 hf4 (by omega)
    rw [hty] at hy4
    obtain ⟨d, hd⟩ := arg_bytes htb heb hcb hy4
    obtain ⟨n0, h0⟩ := ints 0 (by omega)
    obtain ⟨n1, h1⟩ := ints 1 (by omega)
    obtain ⟨n2, h2⟩ := ints 2 (by omega)
    obtain ⟨n3, h3⟩ := ints 3 (by omega)
    simp at h0 h1 h2 h3 hd
    exact ⟨⟨n0, n1, n2, n3, c4, d⟩, by rw [h0, h1, h2, h3], hd⟩

theorem arg_instr {e tb eb : TypeId} {fs : Array Field} {b0 : Nat} {r : Reach} {v : Value} {d : DataW H} {ps : List MemPlace} (he : P.underlying e = some (.struct fs))
    (hone : oneCellFields P fs = true) (hC : P.cellsOf e = 5) (hint : ∀ j, j < 4 → ∃ f, fs[j]? = some f ∧ P.underlying f.type = some (.int .i64)) (hsl : ∃ f, fs[4]? = some f ∧ f.type = tb)
    (htb : P.underlying tb = some (.slice eb)) (heb : P.underlying eb = some (.int .u8)) (hcb : P.cellsOf eb = 1)
    (hv : Value.okWide P w r b0 e v) (h : DataW.Trod enc P w base spare held e v d ps) : ∃ y : InsD, v = .agg #[.int .i64 y.old, .int .i64 y.new, .int .i64 y.ack, .int .i64 y.trash, y.dv] ∧ RdB w y.dv y.d := by
  obtain ⟨cs, rfl, _⟩ := okWide_struct he hv
  obtain ⟨fuel, hf⟩ := h
  obtain ⟨y, hy, hd⟩ := read_instr he hone hC hint hsl htb heb hcb hf
  refine ⟨y, ?_, hd⟩
  have : cs.toList = _ := hy
  rw [show cs = cs.toList.toArray from by simp, this]

theorem arg_instrs {t e tb eb : TypeId} {fs : Array Field} {fuel : Nat} {v : Value} {x : DataW H × List MemPlace} (ht : P.underlying t = some (.slice e)) (he : P.underlying e = some (.struct fs))
    (hone : oneCellFields P fs = true) (hC : P.cellsOf e = 5) (hint : ∀ j, j < 4 → ∃ f, fs[j]? = some f ∧ P.underlying f.type = some (.int .i64)) (hsl : ∃ f, fs[4]? = some f ∧ f.type = tb)
    (htb : P.underlying tb = some (.slice eb)) (heb : P.underlying eb = some (.int .u8)) (hcb : P.cellsOf eb = 1)
    (h : DataW.trod enc P w base spare held fuel t [v] = some x) : ∃ l : List InsD, InsArg w v l := by
  rcases open_slice ht h with ⟨hcs, _⟩ | ⟨a, len, cap, m, n, D, Pl, hcs, hb, hl, hm, hmm, hx, hi⟩
  · simp at hcs
    subst hcs
    exact ⟨[], ⟨Rd.nil w 5, fun x hx => by cases hx⟩⟩
  · simp at hcs
    subst hcs
    have hlm : len ≤ m := by rw [hmm]; split <;> omega
    have each : ∀ i, i < len → ∃ y : InsD, (∀ j u, [Value.int .i64 y.old, .int .i64 y.new, .int .i64 y.ack, .int .i64 y.trash, y.dv][j]? = some u → w.cell? (a.add (i * 5 + j)) = some u) ∧ RdB w y.dv y.d := by
      intro i hil
      obtain ⟨cs', hc, ht'⟩ := hi i (by omega)
      rw [hC] at hc
      obtain ⟨_, hcl, hat⟩ := World.cells?_some hc
      obtain ⟨y, hy, hd⟩ := read_instr he hone hC hint hsl htb heb hcb ht'
      refine ⟨y, fun j u hu => ?_, hd⟩
      have hadd : a.add (i * 5 + j) = (a.add (i * 5)).add j := by rw [Go.Deep.add_add]
      have hj5 : j < 5 := by
        rcases Nat.lt_or_ge j 5 with h | h
        · exact h
        · rw [List.getElem?_eq_none (by simpa using h)] at hu; cases hu
      rw [hadd, hat j hj5, hy]
      exact hu
    have build : ∀ k, k ≤ len → ∃ l : List InsD, l.length = k ∧ (∀ j u, (insCells l)[j]? = some u → w.cell? (a.add j) = some u) ∧ ∀ x ∈ l, RdB w x.dv x.d := by
      intro k
      induction k with
      | zero => intro _; exact ⟨[], rfl, fun j u hu => by simp [insCells] at hu, fun x hx => by cases hx⟩
      | succ k ih =>
        intro hk
        obtain ⟨l, hll, hlc, hle⟩ := ih (by omega)
        obtain ⟨y, hy, hyd⟩ := each k (by omega)
        refine ⟨l ++ [y], by simp [hll], fun j u hu => ?_, fun x hx => ?_⟩
        · have hsp : insCells (l ++ [y]) = insCells l ++ [Value.int .i64 y.old, .int .i64 y.new, .int .i64 y.ack, .int .i64 y.trash, y.dv] := by simp [insCells]
          rw [hsp] at hu
          by_cases hj : j < (insCells l).length
          · rw [List.getElem?_append_left hj] at hu
            exact hlc j u hu
          · rw [List.getElem?_append_right (by omega)] at hu
            have := hy _ u hu
            rw [insCells_len, hll] at this
            rw [insCells_len, hll] at hj
            rwa [show k * 5 + (j - k * 5) = j from by omega] at this
        · rcases List.mem_append.1 hx with hx | hx
          · exact hle x hx
          · simp at hx; rw [hx]; exact hyd
    obtain ⟨l, hll, hlc, hle⟩ := build len (Nat.le_refl _)
    subst hll
    exact ⟨l, rd_of_cells (insCells_len l) (by omega) hl hm hlc, hle⟩
end
end Go.Proofs.Ytgcjbbliaelkcaa
