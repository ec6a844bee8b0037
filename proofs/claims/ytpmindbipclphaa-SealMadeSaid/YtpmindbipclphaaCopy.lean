/- copy(x, y) of bytes, the row that is written known whole. Conditions stand in the statements. -/
import Derived.Test.YtpmindbipclphaaSl
import Derived.Laws.IdiomCopy
namespace Go.Proofs.Ytpmindbipclphaa
open Go.RowKit
theorem wp_copy_rd {P : Program} {o : Oper} {a : Act} {w : World} {K : Act → World → Prop} {Q : Exit → Act → World → Prop} (d s : Operand) (dT sT : TypeId)
    (ho : o.op = .call { callee := .builtin .copy, args := #[d, s], argTypes := #[dT, sT] }) (elem : TypeId) (hu : P.underlying dT = some (.slice elem)) (hsz : (P.info? elem).map (·.size) = some 1)
    {g off n c : Nat} (hd : a.eval d = .slice (some ⟨g, off, none⟩) n c) {v2 : Value} {e : List UInt8} (hs : a.eval s = v2) (hr : RdB w v2 e) {cur : Array Value} {t : TypeId} (hg : Blk w g cur t) (hfit : off + (e.take n).length ≤ cur.size)
    (h : ∀ W1, Blk W1 g (putAt cur off (byts (e.take n))) t → Fr1 g w W1 → K (a.put o.dst (goInt (e.take n).length)) W1) : Oper.wp P o a w K Q := by
  obtain ⟨A2, c2, rfl, hnc, hcm, hnone⟩ := hr.form
  have hl : (byts (e.take n)).length = (e.take n).length := by rw [byts_len, Nat.mul_one]
  have hrun : (Builtin.copy_ #[dT, sT] o.type #[.slice (some ⟨g, off, none⟩) n c, .slice A2 e.length c2]).run P w = .ok (goInt (e.take n).length) (w.setCells g off (byts (e.take n))) := by
    cases A2 with
    | none =>
      have hc2 : c2 = 0 := hnone rfl
      have he : e = [] := List.eq_nil_of_length_eq_zero (by omega)
      subst he
      have := run_copy_none (P := P) w dT sT o.type elem (some ⟨g, off, none⟩) none n c 0 c2 hu hsz (by simp)
      simpa [World.setCells, byts] using this
    | some ad =>
      have := run_copy_cells (P := P) w dT sT o.type elem g off n c ad e.length c2 (byts (e.take n)) hu hsz (by rw [hl, List.length_take]; exact Nat.min_comm _ _)
        (fun j v hv => Rd.news hr j v (by
          rw [← Nat.mul_one n, ← byts_take] at hv
          rw [Nat.mul_one, List.getElem?_take] at hv
          split at hv
          · exact hv
          · cases hv))
        (fun j hj => by rw [hg.cell _ (Array.getElem?_eq_getElem (by omega))]; rfl) (fun j _ => hg.free _) (byts_one _)
      rw [hl] at this
      exact this
  unfold Oper.wp execOp
  simp only [ho, resolve, invoke, builtin, Sem.run_bind, Sem.run_pure, Result.andThen_ok, List.map_toArray, List.map_cons, List.map_nil, hd, hs, hrun]
  exact h _ (hg.setCells _ _) (Fr1.setCells _ _ (Fr1.refl g w))
theorem list_copy_rd {P : Program} {ops : Array Oper} {rest : List Oper} {o : Oper} {a : Act} {w : World} {Q : Exit → Act → World → Prop} (hgd : o.guard = none) (d s : Operand) (dT sT : TypeId)
    (ho : o.op = .call { callee := .builtin .copy, args := #[d, s], argTypes := #[dT, sT] }) (elem : TypeId) (hu : P.underlying dT = some (.slice elem)) (hsz : (P.info? elem).map (·.size) = some 1)
    {g off n c : Nat} (hd : a.eval d = .slice (some ⟨g, off, none⟩) n c) {v2 : Value} {e : List UInt8} (hs : a.eval s = v2) (hr : RdB w v2 e) {cur : Array Value} {t : TypeId} (hg : Blk w g cur t) (hfit : off + (e.take n).length ≤ cur.size)
    (h : ∀ W1, Blk W1 g (putAt cur off (byts (e.take n))) t → Fr1 g w W1 → wpList P ops Q rest (a.put o.dst (goInt (e.take n).length)) W1) : wpList P ops Q (o :: rest) a w :=
  wpList_plain hgd fun _ hK => wp_copy_rd d s dT sT ho elem hu hsz hd hs hr hg hfit (fun W1 h1 h2 => hK _ _ (h W1 h1 h2))
/-- Bytes laid at the head of a row of noughts. -/
theorem putAt_zeros {n : Nat} {d : List UInt8} (h : d.length ≤ n) : putAt (byts (List.replicate n 0)).toArray 0 (byts d) = (byts (d ++ List.replicate (n - d.length) 0)).toArray := by
  apply Array.ext_getElem?
  intro i
  have hl : (byts d).length = d.length := by rw [byts_len, Nat.mul_one]
  by_cases hi : i < d.length
  · have := putAt_in (byts d) (byts (List.replicate n 0)).toArray 0 i (by omega) (by rw [hl]; simp [byts]; omega)
    rw [Nat.zero_add] at this
    rw [this, List.getElem?_toArray, byts_app, List.getElem?_append_left (by omega)]
  · rw [putAt_out _ _ _ _ (.inr (by omega)), List.getElem?_toArray, List.getElem?_toArray, byts_app, List.getElem?_append_right (by omega), hl]
    simp only [byts, List.map_replicate, List.getElem?_replicate]
    by_cases h2 : i < n
    · rw [if_pos h2, if_pos (by omega)]
    · rw [if_neg h2, if_neg (by omega)]
end Go.Proofs.Ytpmindbipclphaa
