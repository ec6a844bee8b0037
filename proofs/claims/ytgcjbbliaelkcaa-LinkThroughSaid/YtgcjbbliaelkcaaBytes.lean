/- Bytes in memory as lists; what the conversions between bytes and texts do. Conditions stand in the statements. -/
import Derived.Test.YtgcjbbliaelkcaaBase
import Derived.Laws.BytesString
import Derived.Laws.Cells
import Derived.Lib.ConvBytes
import Derived.WalkSpells
namespace Go.Proofs.Ytgcjbbliaelkcaa
open Go.RowKit

def byts (d : List UInt8) : List Value := d.map fun b => .int .u8 b.toNat
def str (d : List UInt8) : ByteArray := ⟨d.toArray⟩
theorem byts_len (d : List UInt8) : (byts d).length = d.length * 1 := by simp [byts]
theorem byts_at (d : List UInt8) (i : Nat) (hi : i < d.length) : (byts d)[i]? = some (.int .u8 d[i].toNat) := by simp [byts, hi]
theorem byts_take (d : List UInt8) (k : Nat) : (byts d).take (k * 1) = byts (d.take k) := by simp [byts, List.map_take]
theorem byts_drop (d : List UInt8) (k : Nat) : (byts d).drop (k * 1) = byts (d.drop k) := by simp [byts, List.map_drop]
theorem byts_app (d e : List UInt8) : byts (d ++ e) = byts d ++ byts e := by simp [byts]
theorem byts_one (d : List UInt8) : ∀ u ∈ byts d, u.oneCell' = true := by
  intro u hu
  simp only [byts, List.mem_map] at hu
  obtain ⟨x, _, rfl⟩ := hu
  rfl
theorem str_size (d : List UInt8) : (str d).size = d.length := by simp [str, ByteArray.size]
theorem str_toList (d : List UInt8) : (str d).data.toList = d := by simp [str]
theorem str_of (s : ByteArray) : str s.data.toList = s := by cases s; simp [str]
theorem str_inj {d e : List UInt8} (h : str d = str e) : d = e := by
  have := congrArg (fun s : ByteArray => s.data.toList) h
  simpa [str] using this

def icells (l : List Int) : List Value := l.map fun x => .int .i64 x
theorem icells_len (l : List Int) : (icells l).length = l.length * 1 := by simp [icells]
theorem icells_at (l : List Int) (i : Nat) (hi : i < l.length) : (icells l)[i]? = some (.int .i64 l[i]) := by simp [icells, hi]
theorem icells_snoc (l : List Int) (x : Int) : icells (l ++ [x]) = icells l ++ [.int .i64 x] := by simp [icells]

/-- Bytes that a slice value reads as. -/
def RdB (w : World) (v : Value) (d : List UInt8) : Prop := Rd w 1 v d.length (byts d)
theorem RdB.fr0 {w w' : World} {v : Value} {d : List UInt8} (h : RdB w v d) (hf : Fr0 w w') : RdB w' v d := Rd.fr0 h hf
theorem RdB.fr1 {w w' : World} {v : Value} {d : List UInt8} (h : RdB w v d) {b : Nat} (hf : Fr1 b w w') (hs : 0 < d.length → Value.blk v ≠ some b) : RdB w' v d := Rd.fr1 h hf hs
theorem RdB.form {w : World} {v : Value} {d : List UInt8} (h : RdB w v d) : ∃ A c, v = .slice A d.length c ∧ d.length ≤ c ∧ c ≤ maxLen ∧ (A = none → c = 0) := Rd.form h
theorem RdB.of_own {w : World} {base : Nat} {t : TypeId} {v : Value} {n : Nat} {d : List UInt8} (h : w.ownsRow base t 1 v n (byts d)) : RdB w v d := by
  have hn : d.length = n := by have := h.1; rw [byts_len] at this; omega
  unfold RdB
  rw [hn]
  exact Rd.of_own h
theorem RdB.nil (w : World) : RdB w (.slice none 0 0) [] := Rd.nil w 1
theorem RdB.cell {w : World} {v : Value} {d : List UInt8} (h : RdB w v d) {i : Nat} (hi : i < d.length) : ∃ g off c, v = .slice (some ⟨g, off, none⟩) d.length c ∧ i < c ∧ g < w.heap.size ∧ w.cell? ⟨g, off + i, none⟩ = some (.int .u8 d[i].toNat) := by
  obtain ⟨g, off, c, hv, hic, hg, hc⟩ := Rd.cellAt h hi
  refine ⟨g, off, c, hv, hic, hg, ?_⟩
  have := hc 0 _ (by simpa using byts_at d i hi)
  simpa using this
theorem RdB.take {w : World} {A : Option Addr} {c : Nat} {d : List UInt8} (h : RdB w (.slice A d.length c) d) {k : Nat} (hk : k ≤ d.length) : RdB w (.slice A k c) (d.take k) := by
  have := Rd.take h hk rfl
  rw [byts_take] at this
  unfold RdB
  rw [List.length_take, Nat.min_eq_left hk]
  exact this
theorem RdB.drop {w : World} {A : Option Addr} {c : Nat} {d : List UInt8} (h : RdB w (.slice A d.length c) d) {k : Nat} (hk : k ≤ d.length) :
    RdB w (.slice (if c = k then A else A.map (·.add k)) (d.length - k) (c - k)) (d.drop k) := by
  have := Rd.drop h hk rfl
  rw [byts_drop, Nat.mul_one] at this
  unfold RdB
  rw [List.length_drop]
  exact this
theorem RdB.dropAt {w : World} {g off c : Nat} {d : List UInt8} (h : RdB w (.slice (some ⟨g, off, none⟩) d.length c) d) {k : Nat} (hk : k ≤ d.length) (hc : k < c) :
    RdB w (.slice (some ⟨g, off + k, none⟩) (d.length - k) (c - k)) (d.drop k) := by
  have := Rd.dropAt h hk hc
  rw [byts_drop, Nat.mul_one] at this
  unfold RdB
  rw [List.length_drop]
  exact this

/-- 'd[k:]', its value under a name. -/
theorem slice_from {P : Program} {T e : TypeId} (ht : P.underlying T = some (.slice e)) (hs : ∀ w, (sizeOf e).run P w = .ok 1 w) {w : World} {A : Option Addr} {c : Nat} {d : List UInt8} {k : Nat} (h : RdB w (.slice A d.length c) d) (hk : k ≤ d.length) (i : Int) (hi : i = k) :
    ∃ A', (∀ w', (Instr.slice T (.slice A d.length c) (some (.int .i64 i)) none none).run P w' = .ok (.slice A' (d.length - k) (c - k)) w') ∧ RdB w (.slice A' (d.length - k) (c - k)) (d.drop k) ∧
      ∀ g, Value.blk (.slice A' (d.length - k) (c - k)) = some g → Value.blk (.slice A d.length c) = some g := by
  have hel : P.elem T = e := by simp [Program.elem, ht]
  subst hi
  refine ⟨if c = k then A else A.map (·.add k), fun w' => ?_, h.drop hk, ?_⟩
  · rw [run_slice_l (w := w') T A d.length c (by rw [hel]; exact ht) .i64 (k : Int) (by omega) (by omega), hel, hs w']
    simp [Result.andThen, sliced]
  · intro g hg
    cases A with
    | none => simp [Value.blk] at hg
    | some a =>
      have hadd : (a.add k).block = a.block := by unfold Addr.add; split <;> rfl
      by_cases hc : c = k
      · rw [if_pos hc] at hg; exact hg
      · rw [if_neg hc] at hg; simpa [Value.blk, hadd] using hg

theorem toList_beq_true {a b : ByteArray} (h : a = b) : (a.toList == b.toList) = true := by rw [h]; simp
theorem toList_beq_false {a b : ByteArray} (h : a ≠ b) : (a.toList == b.toList) = false := by
  rw [beq_eq_false_iff_ne]
  intro e
  rw [ByteArray.toList_eq, ByteArray.toList_eq] at e
  apply h
  cases a; cases b
  simpa [Array.toList_inj] using e
/-- Bytes written out: '[]byte("..")' of a constant (its row bears the run-time's mark). -/
theorem lit_bytes (w : World) (t : TypeId) (d : List UInt8) (hd : d.length ≤ 1000000) (fz : Nat × Nat) : RdB (w.alloc (.cells (byts d).toArray t fz)) (.slice (some ⟨w.heap.size, 0, none⟩) d.length d.length) d :=
  ⟨byts_len d, ⟨_, _, rfl, Nat.le_refl _, by unfold maxLen; omega, fun h => by cases h⟩, fun _ => ⟨w.heap.size, 0, d.length, (byts d).toArray, t, fz, rfl, heap_alloc_new w _, fun j u hu => by simpa using hu⟩⟩
theorem fr0_bytesWorld (w : World) (e : TypeId) (s : ByteArray) : Fr0 w (Lib.bytesWorld w e s) :=
  ⟨rfl, rfl, rfl, by rw [Lib.bytesWorld_size]; omega, fun k hk _ => Lib.bytesWorld_at_old w e s k hk⟩
theorem rdb_bytesWorld (w : World) (e : TypeId) (s : ByteArray) (hs : s.size ≤ 1000000) : RdB (Lib.bytesWorld w e s) (.slice (some ⟨w.heap.size, 0, none⟩) s.size (grownCap w s.size 0 e)) s.data.toList := by
  have hl : s.data.toList.length = s.size := by rw [Array.length_toList]; rfl
  unfold RdB
  rw [hl]
  refine ⟨by rw [byts_len, hl], ⟨_, _, rfl, grownCap_ge w s.size 0 e, grownCap_le_maxLen w s.size 0 e (by unfold maxLen; omega), fun h => by cases h⟩, fun _ => ⟨w.heap.size, 0, _, _, _, _, rfl, Lib.bytesWorld_at_new w e s, fun j u hu => ?_⟩⟩
  have hj : j < s.data.toList.length := by
    rcases Nat.lt_or_ge j (byts s.data.toList).length with h | h
    · rw [byts_len] at h; omega
    · rw [List.getElem?_eq_none h] at hu; cases hu
  rw [byts_at _ j hj] at hu
  injection hu with hu
  subst hu
  rw [Nat.zero_add]
  unfold Lib.bytesCells
  rw [Array.getElem?_append_left (by simpa using hj)]
  simp at hj ⊢
  simp [hj]
/-- '[]byte(s)' of a text: its value and world under a name. -/
theorem conv_str {P : Program} (w : World) (src dst e : TypeId) (hs : P.underlying src = some .string) (hd : P.underlying dst = some (.slice e)) (he : P.underlying e = some (.int .u8)) (s : ByteArray) (hsz : s.size ≤ 1000000) :
    ∃ (W : World) (c : Nat), (convert src dst (.string s)).run P w = .ok (.slice (some ⟨w.heap.size, 0, none⟩) s.data.toList.length c) W ∧ RdB W (.slice (some ⟨w.heap.size, 0, none⟩) s.data.toList.length c) s.data.toList ∧ Fr0 w W ∧ w.heap.size < W.heap.size := by
  have hl : s.data.toList.length = s.size := by rw [Array.length_toList]; rfl
  refine ⟨Lib.bytesWorld w e s, grownCap w s.size 0 e, ?_, ?_, fr0_bytesWorld w e s, by rw [Lib.bytesWorld_size]; omega⟩
  · rw [hl]; exact Lib.run_convert_string_bytes w src dst e s hs hd he
  · have := rdb_bytesWorld w e s hsz
    rw [hl]; exact this
theorem push_fold (d : List UInt8) (s : ByteArray) : (d.map fun b => ((b.toNat : Nat) : Int)).foldl (fun r n => r.push (UInt8.ofNat n.toNat)) s = ⟨s.data ++ d.toArray⟩ := by
  induction d generalizing s with
  | nil => simp
  | cons b r ih =>
    simp only [List.map_cons, List.foldl_cons, ih, Int.toNat_natCast, UInt8.ofNat_toNat]
    cases s
    simp [ByteArray.push]

theorem conv_bytes {P : Program} (w : World) (src dst e : TypeId) (hs : P.underlying src = some (.slice e)) (he : P.underlying e = some (.int .u8)) (hd : P.underlying dst = some .string)
    {A : Option Addr} {c : Nat} {d : List UInt8} (h : RdB w (.slice A d.length c) d) : (convert src dst (.slice A d.length c)).run P w = .ok (.string (str d)) w := by
  rw [run_convert_bytes_string w src dst e A d.length c hs he hd]
  cases A with
  | none =>
    obtain ⟨A', c', hv, hn, _, h0⟩ := h.form
    injection hv with hA _ hc
    subst hA hc
    have hd0 : d = [] := List.eq_nil_of_length_eq_zero (by have := h0 rfl; omega)
    subst hd0
    rfl
  | some a =>
    have hl : (loadCells a d.length).run P w = .ok ((d.map fun b => ((b.toNat : Nat) : Int)).map (Value.int .u8)).toArray w := by
      have hc : ∀ j v, (byts d)[j]? = some v → w.cell? (a.add j) = some v := by
        intro j v hj
        have hjl : j < d.length := by
          rcases Nat.lt_or_ge j d.length with h | h
          · exact h
          · rw [List.getElem?_eq_none (by simp [byts]; exact h)] at hj; cases hj
        obtain ⟨g, off, c', hv, _, _, hc⟩ := h.cell hjl
        injection hv with hA _ _
        injection hA with hA
        subst hA
        have hadd : (⟨g, off, none⟩ : Addr).add j = ⟨g, off + j, none⟩ := by unfold Addr.add; split <;> simp_all
        rw [hadd, hc, ← byts_at d j hjl, hj]
      have := run_loadCells_list (P := P) w a (byts d) hc
      rw [byts_len, Nat.mul_one] at this
      rw [this]
      simp [byts]
    rw [run_bytesToString w a d.length c _ hl, push_fold]
    simp [str, ByteArray.empty, ByteArray.emptyWithCapacity]
    rfl
end Go.Proofs.Ytgcjbbliaelkcaa
