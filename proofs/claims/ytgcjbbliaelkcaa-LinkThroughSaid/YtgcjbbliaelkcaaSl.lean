/- Bytes of the call's own behind a slice that may begin within its block: cut in front, appended to. Conditions stand in the statements. -/
import Derived.Test.YtgcjbbliaelkcaaBytes
import Derived.Test.YtgcjbbliaelkcaaRows
import Derived.Test.YtgcjbbliaelkcaaSteps
import Derived.Deep.AppendSrc
import Derived.KernelRfl
namespace Go.Proofs.Ytgcjbbliaelkcaa
open Go.RowKit

/-- Cells put in from a place on. -/
def putAt (cs : Array Value) : Nat → List Value → Array Value
  | _, [] => cs
  | o, v :: r => putAt (cs.setIfInBounds o v) (o + 1) r
theorem putAt_size (vs : List Value) : ∀ (cs : Array Value) (o : Nat), (putAt cs o vs).size = cs.size := by
  induction vs with
  | nil => intro cs o; rfl
  | cons v r ih => intro cs o; simp [putAt, ih]
theorem putAt_out (vs : List Value) : ∀ (cs : Array Value) (o i : Nat), (i < o ∨ o + vs.length ≤ i) → (putAt cs o vs)[i]? = cs[i]? := by
  induction vs with
  | nil => intro cs o i _; rfl
  | cons v r ih =>
    intro cs o i h
    simp only [List.length_cons] at h
    rw [putAt, ih _ _ _ (by omega), Array.getElem?_setIfInBounds_ne (by omega)]
theorem putAt_in (vs : List Value) : ∀ (cs : Array Value) (o j : Nat), j < vs.length → o + vs.length ≤ cs.size → (putAt cs o vs)[o + j]? = vs[j]? := by
  induction vs with
  | nil => intro cs o j h _; simp at h
  | cons v r ih =>
    intro cs o j h hs
    simp only [List.length_cons] at h hs
    cases j with
    | zero =>
      show (putAt (cs.setIfInBounds o v) (o + 1) r)[o]? = some v
      rw [putAt_out r (cs.setIfInBounds o v) (o + 1) o (.inl (by omega)), Array.getElem?_setIfInBounds, if_pos rfl, if_pos (by omega)]
    | succ j => rw [putAt, show o + (j + 1) = (o + 1) + j by omega, ih _ _ _ (by omega) (by simp; omega)]; simp
theorem Blk.setCells {t : TypeId} {g : Nat} (vs : List Value) : ∀ {w : World} {cs : Array Value} (o : Nat), Blk w g cs t → Blk (w.setCells g o vs) g (putAt cs o vs) t := by
  induction vs with
  | nil => intro w cs o h; exact h
  | cons v r ih => intro w cs o h; exact ih (o + 1) (h.set o v)
theorem Fr1.setCells {g : Nat} (vs : List Value) : ∀ {w0 w : World} (o : Nat), Fr1 g w0 w → Fr1 g w0 (w.setCells g o vs) := by
  induction vs with
  | nil => intro w0 w o h; exact h
  | cons v r ih => intro w0 w o h; exact ih (o + 1) (h.set o v)

/-- A slice's block. -/
def inBlk (v : Value) (k : Nat) : Prop := Value.blk v = some k
/-- Bytes of the call's own, from block base on; the slice may begin within its block. -/
def SlO (base : Nat) (w : World) (v : Value) (d : List UInt8) : Prop :=
  (v = .slice none 0 0 ∧ d = []) ∨ ∃ g off c cur, v = .slice (some ⟨g, off, none⟩) d.length c ∧ base ≤ g ∧ Blk w g cur 5 ∧ off + c ≤ cur.size ∧ d.length ≤ c ∧ c ≤ maxLen ∧ ∀ j u, (byts d)[j]? = some u → cur[off + j]? = some u
section
variable {base : Nat} {w w' : World} {v : Value} {d : List UInt8}
theorem SlO.nil (base : Nat) (w : World) : SlO base w (.slice none 0 0) [] := .inl ⟨rfl, rfl⟩
theorem SlO.of_own (h : w.ownsRow base 5 1 v d.length (byts d)) : SlO base w v d := by
  rcases h.2 with ⟨rfl, h0⟩ | ⟨g, cap, cur, rfl, hb, hg, h1, h2, h3, h4⟩
  · exact .inl ⟨rfl, List.eq_nil_of_length_eq_zero h0⟩
  · refine .inr ⟨g, 0, cap, cur, rfl, hb, hg, by omega, h1, h2, fun j u hu => ?_⟩
    rw [← h4, List.getElem?_take] at hu
    split at hu
    · simpa using hu
    · cases hu
theorem SlO.rd (h : SlO base w v d) : RdB w v d := by
  rcases h with ⟨rfl, rfl⟩ | ⟨g, off, c, cur, rfl, -, hg, h1, h2, h3, h4⟩
  · exact RdB.nil w
  · exact ⟨byts_len d, ⟨_, _, rfl, h2, h3, fun h => by cases h⟩, fun _ => ⟨g, off, c, cur, _, _, rfl, hg, fun j u hu => h4 j u hu⟩⟩
theorem SlO.form (h : SlO base w v d) : ∃ A c, v = .slice A d.length c ∧ d.length ≤ c ∧ c ≤ maxLen ∧ (A = none → c = 0) := h.rd.form
theorem SlO.lo (h : SlO base w v d) : ∀ k, inBlk v k → base ≤ k ∧ k < w.heap.size := by
  intro k hk
  rcases h with ⟨rfl, rfl⟩ | ⟨g, off, c, cur, rfl, hb, hg, -⟩
  · cases hk
  · cases hk; exact ⟨hb, hg.lt⟩
theorem SlO.ty (h : SlO base w v d) : TyB w v 5 := by
  intro k hk
  rcases h with ⟨rfl, rfl⟩ | ⟨g, off, c, cur, rfl, hb, hg, -⟩
  · cases hk
  · cases hk; exact ⟨_, _, hg⟩
theorem SlO.fr {S : Nat → Prop} (h : SlO base w v d) (hf : Fr S w w') (hs : ∀ k, inBlk v k → ¬ S k) : SlO base w' v d := by
  rcases h with h | ⟨g, off, c, cur, rfl, hb, hg, h1⟩
  · exact .inl h
  · exact .inr ⟨g, off, c, cur, rfl, hb, hg.fr hf (hs g rfl), h1⟩
theorem SlO.fr0 (h : SlO base w v d) (hf : Fr0 w w') : SlO base w' v d := h.fr hf (fun _ _ h => h)
theorem SlO.ne (h : SlO base w v d) {p : Nat} {vs : Array Value} {t : TypeId} (hb : Blk w p vs t) (ht : 5 ≠ t) : ∀ k, inBlk v k → k ≠ p := fun k hk e => h.ty.ne hb ht (by rw [← e]; exact hk)
theorem SlO.fr1 (h : SlO base w v d) {p : Nat} {vs : Array Value} {t : TypeId} (hf : Fr1 p w w') (hb : Blk w p vs t) (ht : 5 ≠ t) : SlO base w' v d := h.fr hf (h.ne hb ht)
/-- 'v[k:]', where there are so many; what it is and what block it lies in. -/
theorem SlO.cut {A : Option Addr} {c : Nat} (h : SlO base w (.slice A d.length c) d) {k : Nat} (hk : k ≤ d.length) :
    SlO base w (.slice (if c = k then A else A.map (·.add k)) (d.length - k) (c - k)) (d.drop k) ∧ ∀ j, inBlk (.slice (if c = k then A else A.map (·.add k)) (d.length - k) (c - k)) j → inBlk (.slice A d.length c) j := by
  rcases h with ⟨hv, rfl⟩ | ⟨g, off, c', cur, hv, hb, hg, h1, h2, h3, h4⟩
  · injection hv with hA hn hc
    subst hA hc
    simp at hk
    subst hk
    refine ⟨.inl ⟨by simp, by simp⟩, fun j hj => ?_⟩
    simp [inBlk, Value.blk] at hj
  · injection hv with hA _ hc
    subst hA hc
    by_cases hck : c = k
    · rw [if_pos hck]
      refine ⟨.inr ⟨g, off, c - k, cur, by simp, hb, hg, by omega, by simp; omega, by omega, fun j u hu => ?_⟩, fun j hj => hj⟩
      have : d.drop k = [] := by simp; omega
      rw [this] at hu
      cases hu
    · rw [if_neg hck]
      have hadd : (⟨g, off, none⟩ : Addr).add k = ⟨g, off + k, none⟩ := by unfold Addr.add; split <;> simp_all
      refine ⟨.inr ⟨g, off + k, c - k, cur, by simp [hadd], hb, hg, by omega, by simp; omega, by omega, fun j u hu => ?_⟩, fun j hj => by simpa [inBlk, Value.blk, hadd] using hj⟩
      rw [Nat.add_assoc]
      refine h4 (k + j) u ?_
      rw [← byts_drop, Nat.mul_one, List.getElem?_drop] at hu
      exact hu
end

theorem infoB : (Try.prog.info? 5).map (fun i => (i.zero, i.size, i.bytes)) = some (some (.int .u8 0), 1, 1) := by kernel_rfl
/-- append onto such a slice. -/
theorem run_append_sl {base : Nat} {w : World} {v : Value} {d : List UInt8} (h : SlO base w v d) (hb : base ≤ w.heap.size) {v2 : Value} {e : List UInt8} (hr : RdB w v2 e) (hl : d.length + e.length ≤ 1000000) (ty : TypeId) :
    ∃ A c w', (Builtin.append_ #[32, 32] ty #[v, v2]).run Try.prog w = .ok (.slice A (d.length + e.length) c) w' ∧ SlO base w' (.slice A (d ++ e).length c) (d ++ e) ∧ Fr (inBlk v) w w' ∧ ∀ k, inBlk (.slice A (d ++ e).length c) k → inBlk v k ∨ w.heap.size ≤ k := by
  obtain ⟨i, hi, hz0, hz1, hz2⟩ := info_parts infoB
  have ht := Try.underlying32
  obtain ⟨A2, c2, rfl, hnc, hcm, hnone⟩ := hr.form
  have hlen : (d ++ e).length = d.length + e.length := List.length_append
  have grown : ∀ (A : Option Addr) (c : Nat) (w1 : World) (n : Nat), n = d.length + e.length → w1.ownsRow w.heap.size 5 1 (.slice A n c) n (byts d ++ byts e) → SlO base w1 (.slice A (d ++ e).length c) (d ++ e) ∧ ∀ k, inBlk (.slice A (d ++ e).length c) k → inBlk v k ∨ w.heap.size ≤ k := by
    intro A c w1 n hn hown
    subst hn
    rw [← byts_app, ← hlen] at hown
    have h1 := SlO.of_own hown
    refine ⟨?_, fun k hk => .inr (h1.lo k hk).1⟩
    rcases h1 with h1 | ⟨g, off, c', cur, hv, hg, rest⟩
    · exact .inl h1
    · exact .inr ⟨g, off, c', cur, hv, by omega, rest⟩
  cases A2 with
  | none =>
    have hc2 : c2 = 0 := hnone rfl
    subst hc2
    have he : e = [] := List.eq_nil_of_length_eq_zero (by omega)
    subst he
    rcases h with ⟨rfl, rfl⟩ | ⟨g, off, c, cur, rfl, hbg, hg, h1, h2, h3, h4⟩
    · refine ⟨none, 0, w, ?_, SlO.nil _ _, Fr.refl _ _, fun k hk => by cases hk⟩
      simp [Builtin.append_, run_underlying ht, sizeOf, typeInfo, hi, Builtin.lenOf, Builtin.firstCells]
    · have hrun := run_append_room_src (P := Try.prog) w 32 32 ty 5 i ht hi g off d.length c (.slice none 0 0) 0 [] (Src.ofNil (P := Try.prog) w ht 0) (by omega) (fun j hj => by simp at hj) (fun j hj => by simp at hj)
      refine ⟨some ⟨g, off, none⟩, c, w, by simpa [World.setCells] using hrun, ?_, Fr.refl _ _, fun k hk => .inl hk⟩
      rw [List.append_nil]
      exact .inr ⟨g, off, c, cur, rfl, hbg, hg, h1, h2, h3, h4⟩
  | some ad =>
    have news : ∀ j u, (byts e)[j]? = some u → w.cell? (ad.add j) = some u := fun j u hu => Rd.news hr j u hu
    have nl : (byts e).length = e.length * 1 := byts_len e
    rcases h with ⟨rfl, rfl⟩ | ⟨g, off, c, cur, rfl, hbg, hg, h1, h2, h3, h4⟩
    · obtain ⟨v', w', hrun, hown, hgrow, -⟩ := run_append_own (P := Try.prog) w w.heap.size 32 ty 5 i _ 1 1 ht hi hz0 hz1 hz2 rfl (by decide) (.slice none 0 0) 0 [] ⟨rfl, .inl ⟨rfl, rfl⟩⟩ ad e.length c2 (byts e) nl news (byts_one e) (by unfold maxLen; simp at hl; omega) (by simp at hl; omega) (Nat.le_refl _)
      obtain ⟨A', c', rfl, -⟩ := own_form hown
      obtain ⟨g1, g2⟩ := grown A' c' w' _ (by simp) hown
      refine ⟨A', c', w', by simpa using hrun, g1, Fr.grown (Fr.refl _ _) hgrow (fun k hk => by cases hk), g2⟩
    · by_cases hroom : d.length + e.length ≤ c
      · have hrun := run_append_room_src (P := Try.prog) w 32 32 ty 5 i ht hi g off d.length c (.slice (some ad) e.length c2) e.length (byts e) (Src.ofSlice (P := Try.prog) w ht ad e.length c2 (byts e) (by rw [hz1]; exact nl) news (byts_one e)) hroom
          (fun j hj => by rw [hz1, hg.cell _ (Array.getElem?_eq_getElem (by rw [nl] at hj; omega))]; rfl) (fun j hj => hg.free _)
        rw [hz1] at hrun
        refine ⟨some ⟨g, off, none⟩, c, w.setCells g (off + d.length * 1) (byts e), hrun, ?_, Fr.mono (Fr1.setCells (byts e) _ (Fr1.refl g w)) (fun k hk => by rw [hk]; rfl), fun k hk => .inl hk⟩
        refine .inr ⟨g, off, c, _, rfl, hbg, hg.setCells (byts e) _, by rw [putAt_size]; exact h1, by rw [hlen]; exact hroom, h3, fun j u hu => ?_⟩
        rw [byts_app] at hu
        by_cases hj : j < d.length
        · rw [List.getElem?_append_left (by rw [byts_len]; omega)] at hu
          rw [putAt_out _ _ _ _ (.inl (by omega))]
          exact h4 j u hu
        · rw [List.getElem?_append_right (by rw [byts_len]; omega), byts_len] at hu
          have hj2 : j - d.length * 1 < (byts e).length := by
            rcases Nat.lt_or_ge (j - d.length * 1) (byts e).length with h | h
            · exact h
            · rw [List.getElem?_eq_none h] at hu; cases hu
          have := putAt_in (byts e) cur (off + d.length * 1) (j - d.length * 1) hj2 (by rw [nl]; omega)
          rw [show off + d.length * 1 + (j - d.length * 1) = off + j by omega] at this
          rw [this, hu]
      · obtain ⟨v', w', hrun, hown, hgrow⟩ := run_append_arg_grows (P := Try.prog) w 32 ty 5 i _ 1 1 ht hi hz0 hz1 hz2 rfl (by decide) ⟨g, off, none⟩ d.length c (byts d) (byts_len d)
          (fun j u hu => by rw [show (⟨g, off, none⟩ : Addr).add j = ⟨g, off + j, none⟩ from Addr.add_mid g off j]; exact hg.cell _ (h4 j u hu)) ad e.length c2 (byts e) nl news (by omega) (by unfold maxLen; omega) (by omega)
        obtain ⟨A', c', rfl, -⟩ := own_form hown
        obtain ⟨g1, g2⟩ := grown A' c' w' _ rfl hown
        exact ⟨A', c', w', hrun, g1, Fr.grown (Fr.refl _ _) hgrow (fun k hk => by cases hk), g2⟩
end Go.Proofs.Ytgcjbbliaelkcaa
