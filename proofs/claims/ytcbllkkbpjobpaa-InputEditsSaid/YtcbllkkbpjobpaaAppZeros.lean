/- append of so many zeros ('make', handed to append as a number) onto bytes of the call's own. Conditions stand in the statements. -/
import Derived.Test.YtcbllkkbpjobpaaWApp
import Derived.Lib.AppendZeros
namespace Go.Proofs.Ytcbllkkbpjobpaa
open Go.RowKit

theorem zeroCells_u8 (n : Nat) : Builtin.zeroCells (Value.int .u8 0).cells n = (List.replicate n (Value.int .u8 0)).toArray := by
  apply Array.ext
  · simp [Builtin.zeroCells, Value.cells]
  · intro i h1 h2
    simp [Builtin.zeroCells, Value.cells, Nat.mod_one]
theorem byts_zeros (n : Nat) : byts (List.replicate n 0) = List.replicate n (Value.int .u8 0) := by simp [byts]

theorem run_app_zeros {P : Program} (w : World) (base : Nat) (t tn ty e : TypeId) (i : TypeInfo) (kn : IntKind) (ht : P.underlying t = some (.slice e)) (htn : P.underlying tn = some (.int kn)) (hi : P.info? e = some i)
    (hz : i.zero = some (.int .u8 0)) (hsize : i.size = 1) (hby : i.bytes = 1)
    (v : Value) (k : Nat) (xs : List Value) (hown : w.ownsRow base e 1 v k xs) (n : Nat) (h63 : k + n ≤ 100000000) (hbase : base ≤ w.heap.size) :
    ∃ v' w', (Builtin.append_ #[t, tn] ty #[v, .int .i64 n]).run P w = .ok v' w' ∧ w'.ownsRow base e 1 v' (k + n) (xs ++ List.replicate n (.int .u8 0)) ∧ w.grownBy w' v.ownBlock := by
  have hw : IntKind.i64.wrap (n : Int) = n := by rw [IntKind.wrap_i64]; omega
  have hneg : ¬ ((n : Int) < 0) := by omega
  have h48i : ¬ (281474976710656 < (n : Int)) := by omega
  have hlen : (xs ++ List.replicate n (Value.int .u8 0)).length = (k + n) * 1 := by rw [List.length_append, hown.1, List.length_replicate]; omega
  have grown : ∀ (old : Nat), old < k + n → ∀ (row : Option Nat),
      (w.drew.alloc (.cells (xs.toArray ++ Builtin.zeroCells (Value.int .u8 0).cells n ++ Builtin.zeroCells (Value.int .u8 0).cells (grownCap w (k + n) old e - (k + n))) e)).ownsRow base e 1
        (.slice (some ⟨w.heap.size, 0, none⟩) (k + n) (grownCap w (k + n) old e)) (k + n) (xs ++ List.replicate n (.int .u8 0)) ∧
      w.grownBy (w.drew.alloc (.cells (xs.toArray ++ Builtin.zeroCells (Value.int .u8 0).cells n ++ Builtin.zeroCells (Value.int .u8 0).cells (grownCap w (k + n) old e - (k + n))) e)) row := by
    intro old ho row
    have hge := grownCap_ge w (k + n) old e
    have hcm : grownCap w (k + n) old e ≤ maxLen := grownCap_le_maxLen w (k + n) old e (by unfold maxLen; omega)
    have hx : xs.length = k := by have := hown.1; omega
    refine ⟨⟨hlen, .inr ⟨w.heap.size, _, _, rfl, hbase, heap_alloc_new w.drew _, hge, hcm, ?_, ?_⟩⟩, ⟨rfl, rfl, rfl, by simp, fun j hj _ => heap_alloc_old w.drew _ hj⟩⟩
    · simp only [Array.size_append, List.size_toArray, size_zeroCells, hx, Value.cells]
      simp
      omega
    · rw [zeroCells_u8]
      simp only [Array.toList_append, List.append_assoc]
      rw [← List.append_assoc, ← hlen]
      exact List.take_left
  rcases hown.2 with ⟨rfl, rfl⟩ | ⟨g, cap, cur, rfl, hbg, hg, hnc, hcm, hcs, htake⟩
  · have hx : xs = [] := List.eq_nil_of_length_eq_zero (by simpa using hown.1)
    subst hx
    by_cases hm : n = 0
    · subst hm
      refine ⟨.slice none 0 0, w, ?_, World.ownsRow_nil w base e 1, ⟨rfl, rfl, rfl, Nat.le_refl _, fun _ _ _ => rfl⟩⟩
      simp [Builtin.append_, run_underlying ht, run_underlying htn, sizeOf, typeInfo, hi, asInt, asIntOf, IntKind.wrap_i64]
    · have hr := Lib.run_append_nil_zeros (P := P) w t tn ty e i (.int .u8 0) .i64 kn ht htn hi hz n (by omega) (by omega) (by omega) (by rw [hby]; omega)
      have hgr := grown 0 (by omega) (Value.ownBlock (.slice none 0 0))
      simp only [Nat.zero_add, List.nil_append, Array.empty_append] at hgr ⊢
      exact ⟨_, _, hr, hgr.1, hgr.2⟩
  · by_cases hroom : k + n ≤ cap
    · have hst := run_storeCells_at P g k e (List.replicate n (Value.int .u8 0)) 0 cur w hg (by simp; omega) (by intro u hu; rw [List.eq_of_mem_replicate hu]; rfl)
      simp only [Nat.add_zero] at hst
      have hrun : (Builtin.append_ #[t, tn] ty #[.slice (some ⟨g, 0, none⟩) k cap, .int .i64 n]).run P w = .ok (.slice (some ⟨g, 0, none⟩) (k + n) cap) (w.setRow g (cur.toList.take k ++ List.replicate n (Value.int .u8 0) ++ cur.toList.drop (k + n)).toArray) := by
        by_cases hm : n = 0
        · subst hm
          simp only [List.replicate_zero] at hst ⊢
          simp [Builtin.append_, run_underlying ht, run_underlying htn, sizeOf, typeInfo, hi, hsize, hby, asInt, asIntOf, IntKind.wrap_i64, hnc, Addr.add_lit, hst]
        · simp [Builtin.append_, run_underlying ht, run_underlying htn, sizeOf, typeInfo, zeroValue, hi, hz, hsize, hby, asInt, asIntOf, hw, hneg, h48i, hm, hroom, Addr.add_lit, zeroCells_u8, hst]
      refine ⟨_, _, hrun, ⟨hlen, .inr ⟨g, cap, _, rfl, hbg, setRow_heap w g cur _ e _ hg, hroom, hcm, ?_, ?_⟩⟩, ⟨rfl, rfl, rfl, by simp, fun j _ hj => setRow_other w g j _ (fun e => hj (by simp [Value.ownBlock, e]))⟩⟩
      · simp
        omega
      · rw [← hlen, show cur.toList.take k = xs from by rw [← htake, Nat.mul_one]]
        exact List.take_left
    · have hfo := run_firstCells_some (P := P) w.drew i.size k ⟨g, 0, none⟩ k cap xs (by rw [hsize]; exact hown.1) (by simpa using hown.cells (g := g) rfl)
      have hm : n ≠ 0 := by omega
      have hfit := growslice_fits (need := k + n) (old := cap) (bytes := 1) (by omega) (by omega)
      have h48' : ¬ (281474976710656 < Builtin.nextslicecap (k + n) cap) := by omega
      have h63' : ¬ (9223372036854775807 < ((k : Int) + (n : Int))) := by omega
      have hgr := grown cap (by omega) (Value.ownBlock (.slice (some ⟨g, 0, none⟩) k cap))
      refine ⟨_, _, ?_, hgr.1, hgr.2⟩
      simp only [hsize] at hfo
      simp [Builtin.append_, run_underlying ht, run_underlying htn, sizeOf, typeInfo, zeroValue, hi, hz, hsize, hby, asInt, asIntOf, hw, hneg, h48i, hm, hroom, h63', h48', Question.forced, hfo, newRow, grownCap]

theorem app_zeros {ops : Array Oper} {rest : List Oper} {o : Oper} {a : Act} {Q : Exit → Act → World → Prop} (hgd : o.guard = none) (s x : Operand)
    (ho : o.op = .call { callee := .builtin .append, args := #[s, x], argTypes := #[26, 3] }) {w0 w : World} (hf : Fr0 w0 w) {v1 : Value} {L1 : List UInt8} {k1 n : Nat}
    (h1 : w.ownsRow w0.heap.size 5 1 v1 k1 (byts L1)) (hs : a.eval s = v1) (hx : a.eval x = .int .i64 n) (hl : k1 + n ≤ 100000000)
    (h : ∀ A c w', w'.ownsRow w0.heap.size 5 1 (.slice A (k1 + n) c) (k1 + n) (byts (L1 ++ List.replicate n 0)) → Fr0 w0 w' → wpList Try.prog ops Q rest (a.put o.dst (.slice A (k1 + n) c)) w') :
    wpList Try.prog ops Q (o :: rest) a w := by
  obtain ⟨i0, hi, hz0, hz1, hz2⟩ := info_parts infoU8
  obtain ⟨v', w', hr, hown, hgrow⟩ := run_app_zeros (P := Try.prog) w w0.heap.size 26 3 o.type 5 i0 .i64 Try.underlying26 Try.underlying3 hi hz0 hz1 hz2 v1 k1 (byts L1) h1 n hl hf.size
  refine Lib.wpList_append_run _ hgd s x _ _ ho _ _ hs hx _ _ hr ?_
  rw [← byts_zeros, ← byts_app] at hown
  obtain ⟨A, c, rfl, -, -, -⟩ := own_form hown
  exact h A c w' hown (Fr.grown hf hgrow (fun j hj => .inr (own_lt' h1 j hj).1))
end Go.Proofs.Ytcbllkkbpjobpaa
