/- Arrays of whole numbers: as arguments, and compared. Conditions stand in the statements. -/
import Derived.Test.YtgcjbbliaelkcaaArgs
import Derived.Test.YtgcjbbliaelkcaaWLits
import Derived.ChangeKeysEq
import Derived.Laws.StructEq
namespace Go.Proofs.Ytgcjbbliaelkcaa
open Go.ChangeShapes Go.WideShapes Go.ChangeAt Go.RowKit Go.Deep

/-- Cells of whole numbers. -/
def iArr (k : IntKind) (l : List Int) : Array Value := (l.map (Value.int k)).toArray
section
variable {P : Program} {w : World}
theorem eqItems_ints (d : Nat) {e : TypeId} {k : IntKind} (he : P.underlying e = some (.int k)) {xs ys : List Int} : ∀ is : List Nat, (∀ i ∈ is, i < xs.length ∧ i < ys.length) →
    (Op.eqItems (d + 1) e 1 (iArr k xs) (iArr k ys) is).run P w = .ok (is.all fun i => xs.getD i 0 == ys.getD i 0) w
  | [], _ => by simp [Op.eqItems]
  | i :: is, h => by
    obtain ⟨h1, h2⟩ := h i List.mem_cons_self
    have pe : P.plainKey e = true := by simp [Program.plainKey, he]
    have px : (iArr k xs)[i]? = some (.int k (xs.getD i 0)) := by simp [iArr, h1, List.getD]
    have py : (iArr k ys)[i]? = some (.int k (ys.getD i 0)) := by simp [iArr, h2, List.getD]
    have ih := eqItems_ints d he is (fun j hj => h j (List.mem_cons_of_mem _ hj))
    simp only [Op.eqItems, Nat.mul_one, Sem.run_bind, run_part_plain w pe px, run_part_plain w pe py, Result.andThen_ok, run_equalIn_int w d e k k _ _ he, List.all_cons]
    cases hh : (xs.getD i 0 == ys.getD i 0) <;> simp [ih]
theorem all_range_eq {xs ys : List Int} (h : xs.length = ys.length) : ((List.range xs.length).all fun i => xs.getD i 0 == ys.getD i 0) = decide (xs = ys) := by
  rw [Bool.eq_iff_iff]
  simp only [List.all_eq_true, List.mem_range, beq_iff_eq, decide_eq_true_eq]
  constructor
  · intro hh
    apply List.ext_getElem h
    intro i h1 h2
    have := hh i h1
    simpa [List.getD, h1, h2] using this
  · rintro rfl i _; rfl
theorem run_equalIn_ints (d : Nat) {t e : TypeId} {n : Nat} {k : IntKind} {i : TypeInfo} (hu : P.underlying t = some (.array n e)) (hi : P.info? e = some i) (he : P.underlying e = some (.int k)) (hc : P.cellsOf e = 1) {xs ys : List Int} (hx : xs.length = n) (hy : ys.length = n) :
    (Op.equalIn (d + 2) t (.agg (iArr k xs)) (.agg (iArr k ys))).run P w = .ok (decide (xs = ys)) w := by
  rw [run_equalIn_array w (d + 1) _ _ hu hi, hc, eqItems_ints d he, ← hx, all_range_eq (by omega)]
  intro j hj
  have := List.mem_range.1 hj
  omega
theorem run_eql_ints {t e : TypeId} {n : Nat} {k : IntKind} {i : TypeInfo} (hu : P.underlying t = some (.array n e)) (hi : P.info? e = some i) (he : P.underlying e = some (.int k)) (hc : P.cellsOf e = 1) {xs ys : List Int} (hx : xs.length = n) (hy : ys.length = n) :
    (binOp .eql t (.agg (iArr k xs)) (.agg (iArr k ys))).run P w = .ok (.bool (decide (xs = ys))) w := by
  rw [run_eql_struct, run_equalIn_ints 9998 hu hi he hc hx hy]; rfl
theorem run_neq_ints {t e : TypeId} {n : Nat} {k : IntKind} {i : TypeInfo} (hu : P.underlying t = some (.array n e)) (hi : P.info? e = some i) (he : P.underlying e = some (.int k)) (hc : P.cellsOf e = 1) {xs ys : List Int} (hx : xs.length = n) (hy : ys.length = n) :
    (binOp .neq t (.agg (iArr k xs)) (.agg (iArr k ys))).run P w = .ok (.bool (!decide (xs = ys))) w := by
  rw [run_neq_struct, run_equalIn_ints 9998 hu hi he hc hx hy]; rfl
end
section
variable {H : Type} {enc : TypeId × Value → H} {P : Program} {w : World} {base : Nat} {spare : Nat → Bool} {held : Bool}
theorem okWide_array {n : Nat} {e t : TypeId} {r : Reach} {v : Value} (ht : P.underlying t = some (.array n e)) (h : Value.okWide P w r base t v) : ∃ cs, v = .agg cs ∧ cs.size = P.cellsOf t := by
  simp only [Value.okWide, ht] at h
  obtain ⟨cs, h1, h2, _⟩ := h
  exact ⟨cs, h1, h2⟩
theorem arr_ints {t e : TypeId} {n fuel : Nat} {k : IntKind} {cs : List Value} {x : DataW H × List MemPlace} (ht : P.underlying t = some (.array n e)) (he : P.underlying e = some (.int k)) (hc : P.cellsOf e = 1) (hn : P.cellsOf t = n)
    (h : DataW.trod enc P w base spare held fuel t cs = some x) : ∃ zs : List Int, cs = zs.map (Value.int k) ∧ zs.length = n ∧ ∀ z ∈ zs, (Lit.int k z).wf = true := by
  obtain ⟨xs, m, _, _, hl, hxl, hf⟩ := DataW.trod_array ht h
  rw [hn] at hl
  have each : ∀ j, j < n → ∃ z, cs[j]? = some (.int k z) ∧ (Lit.int k z).wf = true := by
    intro j hj
    have h1 := hf j hj
    rw [hc, Nat.mul_one] at h1
    have hone : (cs.drop j).take 1 = [cs[j]'(by omega)] := by rw [List.drop_eq_getElem_cons (by omega)]; rfl
    rw [hone] at h1
    obtain ⟨z, hz, _, hw⟩ := DataW.trod_int he (h1.trans (List.getElem?_eq_getElem (by omega)))
    simp only [List.cons.injEq, and_true] at hz
    exact ⟨z, by rw [List.getElem?_eq_getElem (by omega), hz], hw⟩
  clear hf hxl h
  have gen : ∀ (cs : List Value), (∀ j, j < cs.length → ∃ z, cs[j]? = some (.int k z) ∧ (Lit.int k z).wf = true) → ∃ zs : List Int, cs = zs.map (Value.int k) ∧ ∀ z ∈ zs, (Lit.int k z).wf = true := by
    intro cs
    induction cs with
    | nil => intro _; exact ⟨[], rfl, fun z hz => by cases hz⟩
    | cons c r ih =>
      intro hh
      obtain ⟨zs, h1, h2⟩ := ih (fun j hj => by simpa using hh (j + 1) (by simpa using hj))
      obtain ⟨z, h3, h4⟩ := hh 0 (by simp)
      simp at h3
      exact ⟨z :: zs, by simp [h1, h3], fun y hy => by
        rcases List.mem_cons.1 hy with h | hy
        · (rw [h]; exact h4)
        · exact h2 y hy⟩
  obtain ⟨zs, h1, h2⟩ := gen cs (fun j hj => each j (by omega))
  exact ⟨zs, h1, by rw [h1] at hl; simpa using hl, h2⟩
theorem arg_arr {base' : Nat} {t e : TypeId} {n : Nat} {k : IntKind} {r : Reach} {v : Value} {d : DataW H} {p : List MemPlace} (ht : P.underlying t = some (.array n e)) (he : P.underlying e = some (.int k)) (hc : P.cellsOf e = 1) (hn : P.cellsOf t = n)
    (hv : Value.okWide P w r base' t v) (h : DataW.Trod enc P w base spare held t v d p) : ∃ zs : List Int, v = .agg (iArr k zs) ∧ zs.length = n ∧ ∀ z ∈ zs, (Lit.int k z).wf = true := by
  obtain ⟨cs, rfl, _⟩ := okWide_array ht hv
  obtain ⟨fuel, hf⟩ := h
  obtain ⟨zs, h1, h2, h3⟩ := arr_ints ht he hc hn hf
  refine ⟨zs, ?_, h2, h3⟩
  unfold iArr
  rw [← h1]
  simp [Value.cells]
theorem bytes_of_ints {zs : List Int} (h : ∀ z ∈ zs, (Lit.int .u8 z).wf = true) : ∃ d : List UInt8, iArr .u8 zs = (byts d).toArray ∧ d.length = zs.length := by
  refine ⟨zs.map fun n => UInt8.ofNat n.toNat, ?_, by simp⟩
  unfold iArr byts
  rw [List.map_map]
  congr 1
  apply List.map_congr_left
  intro z hz
  simp only [Function.comp]
  rw [byte_of (h z hz)]
theorem iArr_byts (d : List UInt8) : (byts d).toArray = iArr .u8 (d.map fun b => (b.toNat : Int)) := by simp [iArr, byts, Function.comp_def]
theorem bnd_u32 {n : Int} (h : (Lit.int .u32 n).wf = true) : ∃ m : Nat, n = m ∧ m < 4294967296 := by
  have : IntKind.u32.min ≤ n ∧ n ≤ IntKind.u32.max := by simpa [Lit.wf] using h
  rw [show IntKind.u32.min = 0 from by decide, show IntKind.u32.max = 4294967295 from by decide] at this
  exact ⟨n.toNat, by omega, by omega⟩
theorem byts_inj {d e : List UInt8} (h : (d.map fun b => (b.toNat : Int)) = e.map fun b => (b.toNat : Int)) : d = e := by
  induction d generalizing e with
  | nil => cases e <;> simp_all
  | cons x r ih =>
    cases e with
    | nil => simp at h
    | cons y s =>
      simp only [List.map_cons, List.cons.injEq] at h
      rw [ih h.2, show x = y from UInt8.toNat_inj.1 (by omega)]
end
end Go.Proofs.Ytgcjbbliaelkcaa
