/- Arguments that are keys. Conditions stand in the statements. -/
import Derived.Test.YtgcjbbliaelkcaaLkJ1
import Derived.Test.YtgcjbbliaelkcaaBase
import Derived.Test.YtgcjbbliaelkcaaArgs
import Derived.Test.YtgcjbbliaelkcaaShaEq
import Derived.Test.YtgcjbbliaelkcaaSteps2
import Derived.Test.YtgcjbbliaelkcaaLk2
import Derived.Test.YtgcjbbliaelkcaaRows
import Derived.Test.YtgcjbbliaelkcaaQuiet
import Derived.Test.YtgcjbbliaelkcaaBytes
import Derived.WalkSpells
import Derived.WalkKit
import Derived.Handy
import Derived.Lib.Hide
import Derived.IntWalk
import Derived.Test.YtgcjbbliaelkcaaShaSum2
import Derived.Test.YtgcjbbliaelkcaaSl
import Derived.Test.YtgcjbbliaelkcaaLk
import Derived.Lib.SlBytesConst
import Derived.Test.YtgcjbbliaelkcaaSealWord
import Derived.Test.YtgcjbbliaelkcaaWLits
import Derived.Test.YtgcjbbliaelkcaaArr
import Derived.ChangeSame
set_option linter.unusedSimpArgs false
set_option linter.unusedVariables false
namespace Go.Proofs.Ytgcjbbliaelkcaa
open Go.RowKit

set_option maxHeartbeats 1000000 in
theorem blocks_any {key : List UInt8} {n : Nat} (w : World) :
    Calls Try.prog 55 #[.agg (byts key).toArray, .int .u64 (n : Int)] w fun e w' => ∃ gk gn, e = .returned (.func (.func 65) #[] #[.pointer (some ⟨gn, 0, none⟩), .pointer (some ⟨gk, 0, none⟩)]) ∧
      Blk w' gk (byts key).toArray 22 ∧ Blk w' gn #[.int .u64 (n : Int)] 31 ∧ Fr0 w w' := by
  obtain ⟨ck, hck⟩ : ∃ c, c = (byts key).toArray := ⟨_, rfl⟩
  rw [← hck]
  clear hck
  go_enter Try.func55, Try.ntmps55
  go_wp2_with fail
  go_ret
  have b0 := Blk.new w ck 22
  have b1 := Blk.new (w.alloc (.cells ck 22)) #[.int .u64 (n : Int)] 31
  simp only [World.size_alloc] at b1
  exact ⟨_, _, rfl, b0.alloc _, b1, ((Fr0.refl w).alloc _).alloc _⟩
set_option maxHeartbeats 1000000 in
theorem pturn_any {key text : List UInt8} {n : Nat} {tv : Value} {w : World} (hk : key.length = 16) (hn : n < 18446744073709551616) (ht : RdB w tv text) (htl : text.length ≤ 100000) :
    Calls Try.prog 39 #[.agg (byts key).toArray, .int .u64 (n : Int), tv] w fun e w' => ∃ g, e = .returned (.slice (some ⟨g, 0, none⟩) text.length text.length) ∧ Blk w' g (byts (tnL key n text)).toArray 5 ∧ w.heap.size ≤ g ∧ Fr0 w w' := by
  have HB := Lib.hid (fun W => blocks_any (key := key) (n := n) W)
  have HT := Lib.hid (fun gn gk W (hr : RdB W tv text) (hbn : Blk W gn #[.int .u64 (n : Int)] 31) (hbk : Blk W gk (byts key).toArray 22) => turn0_any hk hn hr htl hbn hbk)
  have HKI := Lib.hid (a16_info hk)
  have K0 := Lib.hid (Blk.new w (byts key).toArray 22)
  have TX := Lib.hid ht
  obtain ⟨len, hlen⟩ : ∃ l, l = text.length := ⟨_, rfl⟩
  rw [← hlen] at HT ⊢
  obtain ⟨T, hT⟩ : ∃ t, t = tnL key n text := ⟨_, rfl⟩
  rw [← hT] at HT ⊢
  obtain ⟨ck, hck⟩ : ∃ c, c = (byts key).toArray := ⟨_, rfl⟩
  rw [← hck] at HB HT HKI K0 ⊢
  have SA := Lib.hid (show w.heap.size ≤ (w.alloc (.cells ck 22)).heap.size by simp)
  have FA := Lib.hid ((Fr0.refl w).alloc (.cells ck 22))
  clear hck hT hlen ht htl
  go_enter Try.func39, Try.ntmps39
  go_wp2_with (first
    | (go_at_call 54; refine (HT.out gn gk _ TX2.out BN.out BK.out).mono ?_; rintro e w3 ⟨g, rfl, hb, hl, hf⟩; have RB := Lib.hid hb; have RL := Lib.hid (Nat.le_trans (Nat.le_trans SA.out (F2.out).size) hl); have F3 := Lib.hid (Fr0.trans (Fr0.trans FA.out F2.out) hf); clear hb hl hf)
    | (go_at_call 55; refine (HB.out _).mono ?_; rintro e w2 ⟨gk, gn, rfl, hbk, hbn, hf⟩; have F2 := Lib.hid hf; have BK := Lib.hid hbk; have BN := Lib.hid hbn; have TX2 := Lib.hid (((TX.out).fr0 FA.out).fr0 hf); clear hbk hbn hf)
    | (refine list_load_blk rfl 22 _ rfl w.heap.size rfl 22 ck K0.out _ Try.underlying22 rfl HKI.out ?_))
  go_ret
  exact ⟨g, rfl, RB.out, RL.out, F3.out⟩
end Go.Proofs.Ytgcjbbliaelkcaa
namespace Go.Proofs.Ytgcjbbliaelkcaa

/-- The cells of rows. -/
def flat {α : Type} (c : α → List Value) (l : List α) : List Value := l.flatMap c
section
variable {α : Type} {c : α → List Value} {k : Nat}
theorem flat_len (h : ∀ x, (c x).length = k) (l : List α) : (flat c l).length = l.length * k := by
  induction l with
  | nil => simp [flat]
  | cons x r ih => simp only [flat, List.flatMap_cons, List.length_append, List.length_cons, h] at ih ⊢; rw [ih, Nat.add_mul]; omega
theorem flat_at (h : ∀ x, (c x).length = k) (l : List α) (i : Nat) (hi : i < l.length) {j : Nat} (hj : j < k) : (flat c l)[i * k + j]? = (c l[i])[j]? := by
  induction l generalizing i with
  | nil => simp at hi
  | cons x r ih =>
    cases i with
    | zero =>
      simp only [flat, List.flatMap_cons, Nat.zero_mul, Nat.zero_add, List.getElem_cons_zero]
      rw [List.getElem?_append_left (by rw [h]; exact hj)]
    | succ i =>
      have h2 := ih i (by simpa using hi)
      simp only [flat, List.flatMap_cons, List.getElem_cons_succ] at h2 ⊢
      rw [List.getElem?_append_right (by rw [h, Nat.add_mul]; omega), h, show (i + 1) * k + j - k = i * k + j by rw [Nat.add_mul]; omega]
      exact h2
theorem flat_app (l m : List α) : flat c (l ++ m) = flat c l ++ flat c m := by simp [flat]
theorem flat_one (x : α) : flat c [x] = c x := by simp [flat]
theorem flat_take (h : ∀ x, (c x).length = k) (l : List α) (i : Nat) : (flat c l).take (i * k) = flat c (l.take i) := by
  induction l generalizing i with
  | nil => simp [flat]
  | cons x r ih =>
    cases i with
    | zero => simp [flat]
    | succ i =>
      have := ih i
      simp only [flat, List.flatMap_cons, List.take_succ_cons] at *
      rw [show (i + 1) * k = (c x).length + i * k from by rw [h, Nat.add_mul]; omega, List.take_length_add_append, this]
theorem flat_drop (h : ∀ x, (c x).length = k) (l : List α) (i : Nat) : (flat c l).drop (i * k) = flat c (l.drop i) := by
  induction l generalizing i with
  | nil => simp [flat]
  | cons x r ih =>
    cases i with
    | zero => simp [flat]
    | succ i =>
      have := ih i
      simp only [flat, List.flatMap_cons, List.drop_succ_cons] at *
      rw [show (i + 1) * k = (c x).length + i * k from by rw [h, Nat.add_mul]; omega, List.drop_length_add_append, this]
theorem flat_mem (h1 : ∀ x, ∀ u ∈ c x, u.oneCell' = true) (l : List α) : ∀ u ∈ flat c l, u.oneCell' = true := by
  intro u hu
  simp only [flat, List.mem_flatMap] at hu
  obtain ⟨x, _, hx⟩ := hu
  exact h1 x u hx
end
end Go.Proofs.Ytgcjbbliaelkcaa
namespace Go.Proofs.Ytgcjbbliaelkcaa
open Go.ChangeShapes Go.WideShapes Go.ChangeAt Go.RowKit Go.Deep

section
variable {P : Program} {H : Type} {enc : TypeId × Value → H} {w : World} {base : Nat} {spare : Nat → Bool} {held : Bool}
/-- A struct of fields of one cell each: each cell is read at its field's type. -/
theorem read_fields {e : TypeId} {fs : Array Field} {n k : Nat} {cs : List Value} {x : DataW H × List MemPlace} (he : P.underlying e = some (.struct fs))
    (hone : oneCellFields P fs = true) (hC : P.cellsOf e = k) (h : DataW.trod enc P w base spare held n e cs = some x) :
    cs.length = k ∧ ∀ j (hj : j < cs.length) f, fs[j]? = some f → ∃ m y, DataW.trod enc P w base spare held m f.type [cs[j]] = some y := by
  obtain ⟨ys, n', hn', hy, hlen, hyl, hf⟩ := DataW.trod_struct he h
  rw [hC] at hlen
  refine ⟨hlen, fun j hj f hfj => ?_⟩
  obtain ⟨ho, hk⟩ := hone_of hone j f hfj
  have h1 := hf j f hfj
  rw [ho, hk] at h1
  have hone' : (cs.drop j).take 1 = [cs[j]] := by rw [List.drop_eq_getElem_cons hj]; rfl
  rw [hone'] at h1
  have hjl : j < fs.size := (Array.getElem?_eq_some_iff.1 hfj).1
  exact ⟨n', ys[j]'(by omega), h1.trans (List.getElem?_eq_getElem (by omega))⟩
theorem read_int {t : TypeId} {n : Nat} {v : Value} {x : DataW H × List MemPlace} (ht : P.underlying t = some (.int .i64)) (h : DataW.trod enc P w base spare held n t [v] = some x) : ∃ m : Int, v = .int .i64 m ∧ -9223372036854775808 ≤ m ∧ m ≤ 9223372036854775807 := by
  obtain ⟨m, hm, _, hw⟩ := DataW.trod_int ht h
  simp only [List.cons.injEq, and_true] at hm
  have hw2 : IntKind.i64.min ≤ m ∧ m ≤ IntKind.i64.max := by simpa [Lit.wf] using hw
  rw [show IntKind.i64.min = -9223372036854775808 from by decide, show IntKind.i64.max = 9223372036854775807 from by decide] at hw2
  exact ⟨m, hm, hw2⟩
theorem read_string {t : TypeId} {n : Nat} {v : Value} {x : DataW H × List MemPlace} (ht : P.underlying t = some .string) (h : DataW.trod enc P w base spare held n t [v] = some x) : ∃ s : ByteArray, v = .string s ∧ s.size ≤ maxLen := by
  obtain ⟨s, hs, _, hm⟩ := DataW.trod_string ht h
  simp only [List.cons.injEq, and_true] at hs
  exact ⟨s, hs, hm⟩
theorem read_bool {t : TypeId} {n : Nat} {v : Value} {x : DataW H × List MemPlace} (ht : P.underlying t = some .bool) (h : DataW.trod enc P w base spare held n t [v] = some x) : ∃ b : Bool, v = .bool b := by
  obtain ⟨b, hb, _⟩ := DataW.trod_bool ht h
  simp only [List.cons.injEq, and_true] at hb
  exact ⟨b, hb⟩

/-- A slice of rows, given how one row is read. -/
theorem arg_of {α : Type} (c : α → List Value) (G : α → Prop) {t e : TypeId} {fuel k : Nat} {v : Value} {x : DataW H × List MemPlace} (hk : 0 < k) (hck : ∀ y, (c y).length = k) (ht : P.underlying t = some (.slice e)) (hC : P.cellsOf e = k)
    (read : ∀ (n : Nat) (cs : List Value) (x : DataW H × List MemPlace), DataW.trod enc P w base spare held n e cs = some x → ∃ y, cs = c y ∧ G y)
    (h : DataW.trod enc P w base spare held fuel t [v] = some x) : ∃ l : List α, Rd w k v l.length (flat c l) ∧ ∀ x ∈ l, G x := by
  rcases open_slice ht h with ⟨hcs, _⟩ | ⟨a, len, cap, m, n, D, Pl, hcs, hb, hl, hm, hmm, hx, hi⟩
  · simp at hcs
    subst hcs
    exact ⟨[], Rd.nil w k, fun x hx => by cases hx⟩
  · simp at hcs
    subst hcs
    have hlm : len ≤ m := by rw [hmm]; split <;> omega
    have each : ∀ i, i < len → ∃ y : α, (∀ j u, (c y)[j]? = some u → w.cell? (a.add (i * k + j)) = some u) ∧ G y := by
      intro i hil
      obtain ⟨cs', hc, ht'⟩ := hi i (by omega)
      rw [hC] at hc
      obtain ⟨_, hcl, hat⟩ := World.cells?_some hc
      obtain ⟨y, hy, hd⟩ := read _ _ _ ht'
      refine ⟨y, fun j u hu => ?_, hd⟩
      have hadd : a.add (i * k + j) = (a.add (i * k)).add j := by rw [Go.Deep.add_add]
      have hjk : j < k := by
        rcases Nat.lt_or_ge j (c y).length with h | h
        · rw [hck] at h; omega
        · rw [List.getElem?_eq_none h] at hu; cases hu
      rw [hadd, hat j hjk, hy]
      exact hu
    have build : ∀ q, q ≤ len → ∃ l : List α, l.length = q ∧ (∀ j u, (flat c l)[j]? = some u → w.cell? (a.add j) = some u) ∧ ∀ x ∈ l, G x := by
      intro q
      induction q with
      | zero => intro _; exact ⟨[], rfl, fun j u hu => by simp [flat] at hu, fun x hx => by cases hx⟩
      | succ q ih =>
        intro hq
        obtain ⟨l, hll, hlc, hle⟩ := ih (by omega)
        obtain ⟨y, hy, hyd⟩ := each q (by omega)
        refine ⟨l ++ [y], by simp [hll], fun j u hu => ?_, fun x hx => ?_⟩
        · rw [flat_app, flat_one] at hu
          have hrl := flat_len hck l
          by_cases hj : j < (flat c l).length
          · rw [List.getElem?_append_left hj] at hu
            exact hlc j u hu
          · rw [List.getElem?_append_right (by omega)] at hu
            have := hy _ u hu
            rw [hrl, hll] at this
            rw [hrl, hll] at hj
            rwa [show q * k + (j - q * k) = j from by omega] at this
        · rcases List.mem_append.1 hx with hx | hx
          · exact hle x hx
          · simp at hx; rw [hx]; exact hyd
    obtain ⟨l, hll, hlc, hle⟩ := build len (Nat.le_refl _)
    subst hll
    exact ⟨l, rd_of_cells (flat_len hck l) hk hl hm hlc, hle⟩
end
end Go.Proofs.Ytgcjbbliaelkcaa
namespace Go.Proofs.Ytgcjbbliaelkcaa
open Go.ChangeShapes Go.WideShapes Go.ChangeAt Go.RowKit Go.Deep

/-- A byte slice and what it reads as. -/
def bpC (y : Value × List UInt8) : List Value := [y.1]
theorem bpC_len (y : Value × List UInt8) : (bpC y).length = 1 := rfl
def BpIn (w : World) (y : Value × List UInt8) : Prop := RdB w y.1 y.2
theorem flat_bp (l : List (Value × List UInt8)) : flat bpC l = l.map (·.1) := by
  induction l with
  | nil => rfl
  | cons x r ih => simp only [flat, List.flatMap_cons, bpC, List.map_cons] at ih ⊢; rw [ih]; rfl
theorem flat_bp_at (l : List (Value × List UInt8)) (i : Nat) (h : i < l.length) : (flat bpC l)[i]? = some l[i].1 := by rw [flat_bp]; simp [h]
section
variable {P : Program} {H : Type} {enc : TypeId × Value → H} {w : World} {base : Nat} {spare : Nat → Bool} {held : Bool}
theorem read_bp {t e : TypeId} {fuel : Nat} {cs : List Value} {x : DataW H × List MemPlace} (ht : P.underlying t = some (.slice e)) (he : P.underlying e = some (.int .u8)) (hc : P.cellsOf e = 1)
    (h : DataW.trod enc P w base spare held fuel t cs = some x) : ∃ y : Value × List UInt8, cs = bpC y ∧ BpIn w y := by
  have hf : ∃ v, cs = [v] := by
    rcases open_slice ht h with ⟨hcs, _⟩ | ⟨a, len, cap, m, n, D, Pl, hcs, _⟩
    · exact ⟨_, hcs⟩
    · exact ⟨_, hcs⟩
  obtain ⟨v, rfl⟩ := hf
  obtain ⟨d, hd⟩ := arg_bytes ht he hc h
  exact ⟨(v, d), rfl, hd⟩
end
end Go.Proofs.Ytgcjbbliaelkcaa
set_option linter.unusedSimpArgs false
namespace Go.Proofs.Ytgcjbbliaelkcaa
open Go.RowKit

/-- A slice of one byte slice, built where it stands. -/
theorem sum_one {w : World} {v : Value} {d : List UInt8} (h : RdB w v d) (hl : d.length ≤ 900000) : Calls Try.prog 51 #[.slice (some ⟨w.heap.size, 0, none⟩) 1 1] (w.alloc (.cells #[v] 32)) fun e w' => e = .returned (.agg (byts (shaN d)).toArray) ∧ Fr0 w w' := by
  have h1 := sum_any (w := w.alloc (.cells #[v] 32)) (lv := .slice (some ⟨w.heap.size, 0, none⟩) 1 1) (ds := [d]) (vs := [v])
    ⟨rfl, ⟨_, _, rfl, by simp, by unfold maxLen; simp, fun h => by cases h⟩, fun _ => ⟨w.heap.size, 0, 1, _, _, _, rfl, heap_alloc_new w _, fun j u hu => by simpa using hu⟩⟩
    (fun i hi => by
      simp at hi
      subst hi
      exact ⟨v, rfl, h.fr0 ((Fr0.refl w).alloc _)⟩) (by simpa using hl)
  refine h1.mono ?_
  rintro e w' ⟨rfl, hf⟩
  exact ⟨by simp, Fr0.trans ((Fr0.refl w).alloc _) hf⟩
set_option maxHeartbeats 2000000 in
set_option maxRecDepth 10000 in
theorem mblock_any {v : Value} {key : List UInt8} {w : World} (x : UInt8) (h : RdB w v key) (hl : key.length ≤ 900000) :
    Calls Try.prog 49 #[v, .int .u8 (x.toNat : Int)] w fun e w' => ∃ g, e = .returned (.slice (some ⟨g, 0, none⟩) 64 64) ∧ Blk w' g (byts (blockN key x)).toArray 127 ∧ w.heap.size ≤ g ∧ Fr0 w w' := by
  obtain ⟨Av, cv, rfl, -, -, -⟩ := h.form
  obtain ⟨z64, hz64⟩ : ∃ z, z = (byts (List.replicate 64 0)).toArray := ⟨_, rfl⟩
  have hrun64 : ∀ W : World, (Instr.alloc 127 true (.tuple #[])).run Try.prog W = .ok (.pointer (some ⟨W.heap.size, 0, none⟩)) (W.alloc (.cells z64 127)) := by rw [hz64]; exact fun _ => by kernel_rfl
  have HRUN64 := Lib.hid hrun64
  have HZ := Lib.hid hz64
  have hxb : (x.toNat : Int) < 256 := by have := x.toNat_lt; omega
  have HKE := Lib.hid (show RdB w (.slice Av key.length cv) key from h)
  obtain ⟨nk, hnk⟩ : ∃ n, n = key.length := ⟨_, rfl⟩
  rw [← hnk] at hl ⊢
  by_cases hg : nk ≤ 64
  · have HKN := Lib.hid (show keyN key = key from keyN_small (by omega))
    have HR := Lib.hid (show RdB w (.slice Av nk cv) (keyN key) from by rw [HKN.out, hnk]; exact h)
    clear hz64 hrun64 hnk h HKN
    go_enter Try.func49, Try.ntmps49
    go_upto_region 5 with (refine list_alloc_blk rfl 127 rfl z64 HRUN64.out ?_; intro g5 w1 hB hF hl5; have B5 := Lib.hid hB; have F5 := Lib.hid hF; have L5 := Lib.hid hl5; have RK := Lib.hid ((HR.out).fr0 hF); clear hB hF hl5)
    have hgl := L5.out
    have KN := Lib.hid (keyN_le key)
    have PK := Lib.hid (padK_len key)
    have BK := Lib.hid (blockN_len key x)
    have HAT := Lib.hid (fun i (h : i < 64) => blockN_at key x i h)
    have HPZ := Lib.hid (show putAt (byts (List.replicate 64 0)).toArray 0 (byts ((keyN key).take 64)) = (byts (padK key)).toArray from by
      rw [List.take_of_length_le (keyN_le key), putAt_zeros (keyN_le key)]; unfold padK; first | done | rfl)
    obtain ⟨kn, hkn⟩ : ∃ k, k = keyN key := ⟨_, rfl⟩
    rw [← hkn] at RK KN HPZ
    obtain ⟨pl, hpl⟩ : ∃ p, p = padK key := ⟨_, rfl⟩
    rw [← hpl] at PK HPZ HAT
    obtain ⟨bl, hbl⟩ : ∃ b, b = blockN key x := ⟨_, rfl⟩
    rw [← hbl] at BK HAT
    have HBL := Lib.hid hbl
    obtain ⟨pc, hpc⟩ : ∃ p, p = putAt z64 0 (byts (kn.take 64)) := ⟨_, rfl⟩
    have HPC := Lib.hid (show pc = (byts pl).toArray from hpc.trans (by rw [HZ.out]; exact HPZ.out))
    have hkl : (kn.take 64).length ≤ 64 := by rw [List.length_take]; omega
    have hzs : z64.size = 64 := by rw [HZ.out]; rfl
    have HZS := Lib.hid hzs
    have HKL := Lib.hid hkl
    obtain ⟨cn, hcn⟩ : ∃ c : Int, c = ((kn.take 64).length : Int) := ⟨_, rfl⟩
    have HPCC := Lib.hid hpc
    have HCN := Lib.hid hcn
    clear hkn hpl hbl hpc hkl hzs hcn
    go_wp2_with (refine list_copy_rd rfl _ _ 32 32 rfl 5 Try.underlying32 (by kernel_rfl) rfl rfl (RK.out) B5.out (by rw [HZS.out]; have := HKL.out; omega) ?_; intro w6 hB hF; rw [← HPCC.out] at hB; have B6 := Lib.hid hB; have F6 := Lib.hid (Fr0.new F5.out hF hgl); rw [show goInt ((kn.take 64).length : Int) = .int .i64 cn from by rw [HCN.out]; rfl]; clear hB hF)
    go_loopw [18] (fun v18 wr => ∃ i : Nat, i ≤ 64 ∧ v18 = .int .i64 i ∧ Blk wr g5 (byts (bl.take i ++ pl.drop i)).toArray 127 ∧ Fr0 w wr) (fun v18 _ => 64 - (intOf v18).toNat)
    case atStart => exact ⟨0, by omega, rfl, by have h := B6.out; rw [HPC.out] at h; exact h, F6.out⟩
    case round =>
      obtain ⟨i, hi, rfl, hB, hF⟩ := hrel
      by_cases hlt : i < 64
      · have i0 : (0 : Int) ≤ (i : Int) := by omega
        have i1 : (i : Int) < 64 := by omega
        have d0 := hB.cell i (take_set_xor PK.out BK.out hlt)
        have f0 := hB.free i
        have hx := xor_u8 (pl.getD i 0) x
        rw [← (HAT.out) i hlt] at hx
        have HN := Lib.hid (show Blk (wr.setCell ⟨g5, i, none⟩ (.int .u8 ((bl.getD i 0).toNat : Int))) g5 (byts (bl.take (i + 1) ++ pl.drop (i + 1))).toArray 127 from by
          have h := hB.set i (.int .u8 ((bl.getD i 0).toNat : Int))
          rw [bhalf_set BK.out PK.out hlt] at h
          exact h)
        obtain ⟨pi, hpi⟩ : ∃ p, p = pl.getD i 0 := ⟨_, rfl⟩
        obtain ⟨bi, hbi⟩ : ∃ p, p = bl.getD i 0 := ⟨_, rfl⟩
        rw [← hpi] at d0 hx
        rw [← hbi] at hx HN
        have HF := Lib.hid hF
        clear hpi hbi hB hF
        go_wp2_with fail
        go_roundw
        case measure => simp [intOf]; omega
        case rel => exact ⟨i + 1, by omega, by go_num, HN.out, Fr.setCell (p := ⟨g5, i, none⟩) HF.out (.inr hgl) _⟩
      · obtain rfl : i = 64 := by omega
        have e : bl.take 64 ++ pl.drop 64 = bl := by rw [List.take_of_length_le (by rw [BK.out]; omega), List.drop_of_length_le (by rw [PK.out]; omega), List.append_nil]
        rw [e, HBL.out] at hB
        clear e
        go_wp2_with fail
        go_ret
        exact ⟨g5, rfl, hB, hgl, hF⟩

  · have HKN := Lib.hid (show keyN key = shaN key from keyN_great (by omega))
    have hgt : (64 : Int) < (nk : Int) := by omega
    have HSU := Lib.hid (fun (W : World) (hf : Fr0 w W) => show Calls Try.prog 51 #[.slice (some ⟨W.heap.size, 0, none⟩) 1 1] (W.alloc (.cells #[.slice Av nk cv] 32)) (fun e w' => e = .returned (.agg (byts (keyN key)).toArray) ∧ Fr0 W w') from by
      rw [HKN.out, hnk]
      exact sum_one (h.fr0 hf) (by omega))
    have h32 : (keyN key).length = 32 := by rw [HKN.out]; exact sha_len key
    have hi32 := dig_info h32
    have ho32 := z32_size h32
    have ha32 := byts_all (keyN key)
    have HRUN32 := Lib.hid (fun W => z32_run W)
    obtain ⟨z32, hz32⟩ : ∃ z, z = z32A := ⟨_, rfl⟩
    rw [← hz32] at HRUN32 ho32
    obtain ⟨s0, hs0⟩ : ∃ s, s = (byts (keyN key)).toArray := ⟨_, rfl⟩
    rw [← hs0] at HSU hi32 ho32 ha32
    have HS0 := Lib.hid hs0
    have HI := Lib.hid hi32
    have HO := Lib.hid ho32
    have H32 := Lib.hid h32
    clear hz64 hrun64 hnk h HKN hz32 hs0 hi32 ho32 h32
    go_enter Try.func49, Try.ntmps49
    go_upto_region 5 with (first
      | (refine list_alloc_blk rfl 127 rfl z64 HRUN64.out ?_; intro g5 w1 hB hF hl5; have B1 := Lib.hid hB; have F1 := Lib.hid hF; have L5 := Lib.hid hl5; clear hB hF hl5)
      | (go_at_call 51; refine (HSU.out _ F1.out).mono ?_; rintro e w2 ⟨rfl, hf⟩; have B2 := Lib.hid ((B1.out).fr0 hf); have F2 := Lib.hid (Fr0.trans F1.out hf); clear hf)
      | (refine list_alloc_blk rfl 23 rfl z32 HRUN32.out ?_; intro g6 w3 hB hF hl6; have C3 := Lib.hid hB; have B3 := Lib.hid ((B2.out).fr0 hF); have F3 := Lib.hid (Fr0.trans F2.out hF); have L6 := Lib.hid hl6; clear hB hF hl6)
      | (refine list_store_blk rfl 23 _ _ rfl g6 s0 rfl rfl 23 z32 C3.out HI.out HO.out ha32 ?_; intro w4 hB hF; have C4 := Lib.hid hB; have B5 := Lib.hid ((B3.out).fr1 hF (fun e => by have := (B2.out).lt; have := L6.out; omega)); have F5 := Lib.hid (Fr0.new F3.out hF (by have := (F2.out).size; have := L6.out; omega)); clear hB hF))
    have RK := Lib.hid (show RdB w4 (.slice (some ⟨g6, 0, none⟩) 32 32) (keyN key) from by
      have hb := C4.out
      rw [HS0.out] at hb
      have h := arr_rd hb (o := 0) (k := 32) (c := 32) (by rw [H32.out]; decide) (Nat.le_refl _) (by unfold maxLen; decide)
      rw [List.drop_zero, List.take_of_length_le (Nat.le_of_eq H32.out)] at h
      exact h)
    have hgl := L5.out
    have KN := Lib.hid (keyN_le key)
    have PK := Lib.hid (padK_len key)
    have BK := Lib.hid (blockN_len key x)
    have HAT := Lib.hid (fun i (h : i < 64) => blockN_at key x i h)
    have HPZ := Lib.hid (show putAt (byts (List.replicate 64 0)).toArray 0 (byts ((keyN key).take 64)) = (byts (padK key)).toArray from by
      rw [List.take_of_length_le (keyN_le key), putAt_zeros (keyN_le key)]; unfold padK; first | done | rfl)
    obtain ⟨kn, hkn⟩ : ∃ k, k = keyN key := ⟨_, rfl⟩
    rw [← hkn] at RK KN HPZ
    obtain ⟨pl, hpl⟩ : ∃ p, p = padK key := ⟨_, rfl⟩
    rw [← hpl] at PK HPZ HAT
    obtain ⟨bl, hbl⟩ : ∃ b, b = blockN key x := ⟨_, rfl⟩
    rw [← hbl] at BK HAT
    have HBL := Lib.hid hbl
    obtain ⟨pc, hpc⟩ : ∃ p, p = putAt z64 0 (byts (kn.take 64)) := ⟨_, rfl⟩
    have HPC := Lib.hid (show pc = (byts pl).toArray from hpc.trans (by rw [HZ.out]; exact HPZ.out))
    have hkl : (kn.take 64).length ≤ 64 := by rw [List.length_take]; omega
    have hzs : z64.size = 64 := by rw [HZ.out]; rfl
    have HZS := Lib.hid hzs
    have HKL := Lib.hid hkl
    obtain ⟨cn, hcn⟩ : ∃ c : Int, c = ((kn.take 64).length : Int) := ⟨_, rfl⟩
    have HPCC := Lib.hid hpc
    have HCN := Lib.hid hcn
    clear hkn hpl hbl hpc hkl hzs hcn
    go_wp2_with (refine list_copy_rd rfl _ _ 32 32 rfl 5 Try.underlying32 (by kernel_rfl) rfl rfl (RK.out) B5.out (by rw [HZS.out]; have := HKL.out; omega) ?_; intro w6 hB hF; rw [← HPCC.out] at hB; have B6 := Lib.hid hB; have F6 := Lib.hid (Fr0.new F5.out hF hgl); rw [show goInt ((kn.take 64).length : Int) = .int .i64 cn from by rw [HCN.out]; rfl]; clear hB hF)
    go_loopw [18] (fun v18 wr => ∃ i : Nat, i ≤ 64 ∧ v18 = .int .i64 i ∧ Blk wr g5 (byts (bl.take i ++ pl.drop i)).toArray 127 ∧ Fr0 w wr) (fun v18 _ => 64 - (intOf v18).toNat)
    case atStart => exact ⟨0, by omega, rfl, by have h := B6.out; rw [HPC.out] at h; exact h, F6.out⟩
    case round =>
      obtain ⟨i, hi, rfl, hB, hF⟩ := hrel
      by_cases hlt : i < 64
      · have i0 : (0 : Int) ≤ (i : Int) := by omega
        have i1 : (i : Int) < 64 := by omega
        have d0 := hB.cell i (take_set_xor PK.out BK.out hlt)
        have f0 := hB.free i
        have hx := xor_u8 (pl.getD i 0) x
        rw [← (HAT.out) i hlt] at hx
        have HN := Lib.hid (show Blk (wr.setCell ⟨g5, i, none⟩ (.int .u8 ((bl.getD i 0).toNat : Int))) g5 (byts (bl.take (i + 1) ++ pl.drop (i + 1))).toArray 127 from by
          have h := hB.set i (.int .u8 ((bl.getD i 0).toNat : Int))
          rw [bhalf_set BK.out PK.out hlt] at h
          exact h)
        obtain ⟨pi, hpi⟩ : ∃ p, p = pl.getD i 0 := ⟨_, rfl⟩
        obtain ⟨bi, hbi⟩ : ∃ p, p = bl.getD i 0 := ⟨_, rfl⟩
        rw [← hpi] at d0 hx
        rw [← hbi] at hx HN
        have HF := Lib.hid hF
        clear hpi hbi hB hF
        go_wp2_with fail
        go_roundw
        case measure => simp [intOf]; omega
        case rel => exact ⟨i + 1, by omega, by go_num, HN.out, Fr.setCell (p := ⟨g5, i, none⟩) HF.out (.inr hgl) _⟩
      · obtain rfl : i = 64 := by omega
        have e : bl.take 64 ++ pl.drop 64 = bl := by rw [List.take_of_length_le (by rw [BK.out]; omega), List.drop_of_length_le (by rw [PK.out]; omega), List.append_nil]
        rw [e, HBL.out] at hB
        clear e
        go_wp2_with fail
        go_ret
        exact ⟨g5, rfl, hB, hgl, hF⟩
end Go.Proofs.Ytgcjbbliaelkcaa
set_option linter.unusedSimpArgs false
namespace Go.Proofs.Ytgcjbbliaelkcaa
open Go.RowKit

/-- Two byte slices, built where they stand. -/
theorem sum_two {w : World} {v1 v2 : Value} {d1 d2 : List UInt8} (h1 : RdB w v1 d1) (h2 : RdB w v2 d2) (hl : d1.length + d2.length ≤ 900000) : Calls Try.prog 51 #[.slice (some ⟨w.heap.size, 0, none⟩) 2 2] (w.alloc (.cells #[v1, v2] 32)) fun e w' => e = .returned (.agg (byts (shaN (d1 ++ d2))).toArray) ∧ Fr0 w w' := by
  have h := sum_any (w := w.alloc (.cells #[v1, v2] 32)) (lv := .slice (some ⟨w.heap.size, 0, none⟩) 2 2) (ds := [d1, d2]) (vs := [v1, v2])
    ⟨rfl, ⟨_, _, rfl, by simp, by unfold maxLen; simp, fun h => by cases h⟩, fun _ => ⟨w.heap.size, 0, 2, _, _, _, rfl, heap_alloc_new w _, fun j u hu => by simpa using hu⟩⟩
    (fun i hi => by
      simp at hi
      rcases (by omega : i = 0 ∨ i = 1) with rfl | rfl
      · exact ⟨v1, rfl, h1.fr0 ((Fr0.refl w).alloc _)⟩
      · exact ⟨v2, rfl, h2.fr0 ((Fr0.refl w).alloc _)⟩) (by simpa using hl)
  refine h.mono ?_
  rintro e w' ⟨rfl, hf⟩
  exact ⟨by simp, Fr0.trans ((Fr0.refl w).alloc _) hf⟩
set_option maxHeartbeats 4000000 in
set_option maxRecDepth 10000 in
theorem mof_any {kv lv : Value} {key : List UInt8} {ds : List (List UInt8)} {vs : List Value} {w : World} (hk : RdB w kv key) (hkl : key.length ≤ 900000) (hr : Rd w 1 lv ds.length vs) (hd : ∀ i (h : i < ds.length), ∃ v, vs[i]? = some v ∧ RdB w v ds[i]) (hl : ds.flatten.length ≤ 800000) :
    Calls Try.prog 34 #[kv, lv] w fun e w' => e = .returned (.agg (byts (macN key ds.flatten)).toArray) ∧ Fr0 w w' := by
  have l63 := hr.le63
  obtain ⟨Ak, ck, rfl, -, -, -⟩ := hk.form
  obtain ⟨Av, cv, rfl, -, -, -⟩ := hr.form
  have HR := Lib.hid hr
  have HD := Lib.hid hd
  have HN := Lib.hid (fun W => hnew_any W)
  have HB54 := Lib.hid (fun (W : World) (hf : Fr0 w W) => show Calls Try.prog 49 #[.slice Ak key.length ck, .int .u8 54] W (fun e w' => ∃ g, e = .returned (.slice (some ⟨g, 0, none⟩) 64 64) ∧ Blk w' g (byts (blockN key 54)).toArray 127 ∧ W.heap.size ≤ g ∧ Fr0 W w') from mblock_any 54 (hk.fr0 hf) hkl)
  have HB92 := Lib.hid (fun (W : World) (hf : Fr0 w W) => show Calls Try.prog 49 #[.slice Ak key.length ck, .int .u8 92] W (fun e w' => ∃ g, e = .returned (.slice (some ⟨g, 0, none⟩) 64 64) ∧ Blk w' g (byts (blockN key 92)).toArray 127 ∧ W.heap.size ≤ g ∧ Fr0 W w') from mblock_any 92 (hk.fr0 hf) hkl)
  have HRUN := Lib.hid (fun W => z32_run W)
  have b54 := blockN_len key 54
  have b92 := blockN_len key 92
  have HMO := Lib.hid (show macN key ds.flatten = shaN (blockN key 92 ++ shaN (blockN key 54 ++ ds.flatten)) from rfl)
  have ho2 := z32_size (macN_len key ds.flatten)
  have hi2 := dig_info (macN_len key ds.flatten)
  have ha2 := byts_all (macN key ds.flatten)
  obtain ⟨ino, hin⟩ : ∃ i, i = shaN (blockN key 54 ++ ds.flatten) := ⟨_, rfl⟩
  have hil : ino.length = 32 := by rw [hin]; exact shaN_len _
  rw [← hin] at HMO
  have HIN := Lib.hid hin
  have ho1 := z32_size hil
  have hi1 := dig_info hil
  have ha1 := byts_all ino
  have HSU := Lib.hid (fun (W : World) (g6 g8 : Nat) (hf : Fr0 w W) (h6 : Blk W g6 (byts (blockN key 92)).toArray 127) (h8 : Blk W g8 (byts ino).toArray 23) => show Calls Try.prog 51 #[.slice (some ⟨W.heap.size, 0, none⟩) 2 2] (W.alloc (.cells #[.slice (some ⟨g6, 0, none⟩) 64 64, .slice (some ⟨g8, 0, none⟩) 32 32] 32)) (fun e w' => e = .returned (.agg (byts (macN key ds.flatten)).toArray) ∧ Fr0 W w') from by
    rw [HMO.out]
    exact sum_two (rd64 h6 b92 (by decide)) (rd64 h8 hil (by decide)) (by omega))
  obtain ⟨so, hso⟩ : ∃ s, s = (byts (macN key ds.flatten)).toArray := ⟨_, rfl⟩
  obtain ⟨si, hsi⟩ : ∃ s, s = (byts ino).toArray := ⟨_, rfl⟩
  obtain ⟨z32, hz32⟩ : ∃ z, z = z32A := ⟨_, rfl⟩
  obtain ⟨s92, hs92⟩ : ∃ s, s = (byts (blockN key 92)).toArray := ⟨_, rfl⟩
  obtain ⟨s54, hs54⟩ : ∃ s, s = blockN key 54 := ⟨_, rfl⟩
  rw [← hso] at HSU ho2 hi2 ha2
  rw [← hsi] at HSU ho1 hi1 ha1
  rw [← hz32] at HRUN ho1 ho2
  rw [← hs92] at HSU HB92
  rw [← hs54] at HB54 HIN b54
  have HIO := Lib.hid hi2
  have HOO := Lib.hid ho2
  have HII := Lib.hid hi1
  have HOI := Lib.hid ho1
  have HSO := Lib.hid hso
  have HSI := Lib.hid hsi
  have H54 := Lib.hid b54
  obtain ⟨nk, hnk⟩ : ∃ n, n = key.length := ⟨_, rfl⟩
  obtain ⟨nd, hnd⟩ : ∃ n, n = ds.length := ⟨_, rfl⟩
  rw [← hnk] at HB54 HB92 ⊢
  rw [← hnd] at l63 ⊢
  have HND := Lib.hid hnd
  have HL := Lib.hid hl
  clear hk hkl hr hd b54 b92 ho2 hi2 hin hil ho1 hi1 hso hsi hz32 hs92 hs54 hnk hnd hl
  go_enter Try.func34, Try.ntmps34
  go_wp2_with (first
    | (refine list_alloc_blk rfl 23 rfl z32 HRUN.out ?_; intro g4 w0 hB hF hl4; have B0 := Lib.hid hB; have F0 := Lib.hid hF; have L4 := Lib.hid hl4; clear hB hF hl4)
    | (go_at_call 47; refine (HN.out _).mono ?_; rintro e w1 ⟨p, rfl, hv, hf⟩; have H1 := Lib.hid hv; have B1 := Lib.hid ((B0.out).fr0 hf); have F1 := Lib.hid (Fr0.trans F0.out hf); have S1 := Lib.hid hf.size; clear hv hf)
    | (go_at_call 49; refine (HB54.out _ F1.out).mono ?_; rintro e w2 ⟨gb, rfl, hB, hgb, hf⟩; have C2 := Lib.hid hB; have B2 := Lib.hid ((B1.out).fr0 hf); have H2 := Lib.hid (HashV.fr0 H1.out hf); have F2 := Lib.hid (Fr0.trans F1.out hf); have S2 := Lib.hid (Nat.le_trans S1.out hf.size); have LB := Lib.hid hgb; clear hB hf hgb)
    | (go_at_call 48; refine (hwrite_any H2.out (rd64 C2.out H54.out (by decide)) (fun _ hq => by injection hq with hq; have h1 := (H1.out).blk.lt; have h2 := LB.out; have hq : gb = p := hq; omega) S2.out (by rw [H54.out]; decide)).mono ?_; rintro e w3 ⟨rfl, v3, hv, hf, -⟩; have H3 := Lib.hid hv; have F3 := Lib.hid (show Fr0 w w3 from Fr.then F2.out hf (fun q hq hl => by have h1 := (HashR.own_lo H1.out q hq).1; have h2 := (F0.out).size; omega)); have B3 := Lib.hid ((B2.out).fr hf (fun hq => by have h1 := (HashR.own_lo H1.out _ hq).1; have h2 := (B0.out).lt; omega)); have S3 := Lib.hid (Nat.le_trans S2.out hf.size); clear hv hf))
  have hg4 := (B0.out).lt
  have hl4 := L4.out
  have hs0 := (F0.out).size
  obtain ⟨b0, hb0⟩ : ∃ b, b = w0.heap.size := ⟨_, rfl⟩
  rw [← hb0] at H3 S3 hg4 hs0
  have hlo := (H3.out).lo
  clear hb0 H1 S1 H2 S2
  go_loopw [16] (fun v16 wr => ∃ (k : Nat) (v : Value), k ≤ nd ∧ v16 = .int .i64 k ∧ HashV b0 wr p v (s54 ++ (ds.take k).flatten) ∧ Blk wr g4 z32 23 ∧ Fr0 w wr ∧ b0 ≤ wr.heap.size) (fun v16 _ => nd - (intOf v16).toNat)
  case atStart => exact ⟨0, _, Nat.zero_le _, rfl, by have h := H3.out; simp only [List.nil_append] at h; rw [List.take_zero, List.flatten_nil, List.append_nil]; exact h, B3.out, F3.out, S3.out⟩
  case round =>
    obtain ⟨k, v, hk, rfl, hH, hK, hF, hS⟩ := hrel
    have HH := Lib.hid hH
    have HK := Lib.hid hK
    have HF := Lib.hid hF
    have HS := Lib.hid hS
    by_cases hlt : k < nd
    · have hkd : k < ds.length := by rw [← HND.out]; exact hlt
      obtain ⟨ev, he, hrb⟩ := (HD.out) k hkd
      obtain ⟨g, off, hA, hkc, hgl, hcells⟩ := ((HR.out).fr0 hF).cellA hkd
      subst hA
      have dk := hcells 0 ev (by simpa using he)
      simp only [Nat.mul_one, Nat.add_zero] at dk
      obtain ⟨Ae, ce, rfl, -, -, -⟩ := hrb.form
      have i0 : (0 : Int) ≤ (k : Int) := by omega
      have i1 : (k : Int) < (nd : Int) := by omega
      have hfl : (ds.take (k + 1)).flatten = (ds.take k).flatten ++ ds[k] := by rw [List.take_succ_eq_append_getElem hkd, List.flatten_append]; simp
      obtain ⟨de, hde⟩ : ∃ d, d = ds[k] := ⟨_, rfl⟩
      rw [← hde] at hfl dk hrb he
      clear hde
      have hle : (s54 ++ (ds.take k).flatten).length + de.length ≤ 1000000 := by
        have h1 : (ds.take (k + 1)).flatten.length ≤ ds.flatten.length := by
          have h2 := congrArg (fun l => l.flatten.length) (List.take_append_drop (k + 1) ds)
          simp only [List.flatten_append, List.length_append] at h2
          omega
        rw [hfl, List.length_append] at h1
        have := HL.out
        rw [List.length_append, H54.out]
        omega
      have HWr := Lib.hid (hwrite_any hH (hrb.fr0 hF) (fun h0 hp => by have h1 := Rd.blk_lt hrb h0 _ hp; omega) hS hle)
      have HFL := Lib.hid hfl
      obtain ⟨el, hel⟩ : ∃ n, n = de.length := ⟨_, rfl⟩
      rw [← hel] at dk HWr
      clear he hrb hkc hgl hcells hkd hH hK hF hS hfl hle hel
      go_wp2_with (go_at_call 48; refine (HWr.out).mono ?_; rintro e w3 ⟨rfl, v3, hv, hf, -⟩; have H3 := Lib.hid hv; have F3 := Lib.hid (show Fr0 w w3 from Fr.then HF.out hf (fun q hq hl => by have := (HashR.own_lo HH.out q hq).1; omega)); have K3 := Lib.hid ((HK.out).fr hf (fun hq => by have := (HashR.own_lo HH.out _ hq).1; omega)); have S3 := Lib.hid (Nat.le_trans HS.out hf.size); clear hv hf)
      go_roundw
      case measure => simp [intOf]; omega
      case rel => exact ⟨k + 1, v3, by omega, by go_num, by have h := H3.out; rw [List.append_assoc, ← HFL.out] at h; exact h, K3.out, F3.out, S3.out⟩
    · obtain rfl : k = nd := by omega
      have e : ds.take k = ds := List.take_of_length_le (by rw [← HND.out]; omega)
      rw [e] at hH
      have HSm := Lib.hid (show Calls Try.prog 50 #[.pointer (some ⟨p, 0, none⟩)] wr (fun e w' => e = .returned (.agg si) ∧ Fr0 wr w') from by
        rw [HSI.out, HIN.out]
        exact hsum_any hH (by have := HL.out; rw [List.length_append, H54.out]; omega))
      clear e hH hK hF hS hlt hk
      go_upto_region 9 with (first
        | (go_at_call 50; refine (HSm.out).mono ?_; rintro e w4 ⟨rfl, hf⟩; have F4 := Lib.hid (Fr0.trans HF.out hf); have B4 := Lib.hid ((HK.out).fr0 hf); have S4 := Lib.hid hf.size; clear hf)
        | (refine list_alloc_blk rfl 23 rfl z32 HRUN.out ?_; intro g8 w5 hB hF hl8; have C5 := Lib.hid hB; have B5 := Lib.hid ((B4.out).fr0 hF); have F5 := Lib.hid (Fr0.trans F4.out hF); have L8 := Lib.hid hl8; clear hB hF hl8)
        | (refine list_store_blk rfl 23 _ _ rfl g8 si rfl rfl 23 z32 C5.out HII.out HOI.out ha1 ?_; intro w5b hB hF; have V8 := Lib.hid (Blk.drew hB); have V4 := Lib.hid (Blk.drew ((B5.out).fr1 hF (fun e => by have := (B4.out).lt; have := L8.out; omega))); have UF := Lib.hid (Fr0.drew (Fr0.new F5.out hF (by have := (F4.out).size; have := L8.out; omega))); clear hB hF))
      simp only [Act.put]
      refine wp_region_held_drew (S := (fun _ => True)) (by kernel_rfl) trivial (fun hHeld => ?_)
      have _hI : True := trivial
      clear _hI
      refine takeH (i := 0) rfl (by kernel_rfl) (by kernel_rfl) (by kernel_rfl) (fun _ _ _ h => h) (yields_move rfl _ rfl) trivial ?_
      try simp only [Act.put, List.setIfInBounds_toArray, List.set_cons_zero, List.set_cons_succ]
      have _hI : True := trivial
      clear _hI
      refine takeH (i := 2) rfl (by kernel_rfl) (by kernel_rfl) (by kernel_rfl) (fun _ _ _ h => h) (v := .slice (some ⟨g8, 0, none⟩) 32 32) (.inl ⟨rfl, fun W _ => (by go_simp; try rfl)⟩) trivial ?_
      try simp only [Act.put, List.setIfInBounds_toArray, List.set_cons_zero, List.set_cons_succ]
      have _hI : True := trivial
      clear _hI
      refine wpAnyH_ready (rs := [1]) (by kernel_rfl) (by simp) (consH rfl rfl (fun K hK => ?_) AllReadyH.nil)
      have _hI : True := trivial
      clear _hI
      go_simp
      refine (HB92.out _ UF.out).mono ?_
      rintro e w6 ⟨g6, rfl, hB, hg6, hf⟩
      have C6 := Lib.hid hB
      have U8 := Lib.hid ((V8.out).fr0 hf)
      have U4 := Lib.hid ((V4.out).fr0 hf)
      have F6 := Lib.hid (Fr0.trans UF.out hf)
      clear hB hf
      refine hK.out _ _ trivial ?_
      clear hK
      try simp only [Act.put, List.setIfInBounds_toArray, List.set_cons_zero, List.set_cons_succ]
      have _hI : True := trivial
      clear _hI
      refine wpAnyH_ready (rs := [3]) (by kernel_rfl) (by simp) (consH rfl rfl (fun K hK => ?_) AllReadyH.nil)
      have _hI : True := trivial
      clear _hI
      go_simp
      refine hK.out _ _ trivial ?_
      clear hK
      try simp only [Act.put, List.setIfInBounds_toArray, List.set_cons_zero, List.set_cons_succ]
      have _hI : True := trivial
      clear _hI
      refine wpAnyH_ready (rs := [4]) (by kernel_rfl) (by simp) (consH rfl rfl (fun K hK => ?_) AllReadyH.nil)
      have _hI : True := trivial
      clear _hI
      go_simp
      refine (HSU.out _ _ _ F6.out C6.out U8.out).mono ?_
      rintro e w7 ⟨rfl, hf⟩
      have X4 := Lib.hid ((U4.out).fr0 hf)
      have F7 := Lib.hid (Fr0.trans F6.out hf)
      clear hf
      refine hK.out _ _ trivial ?_
      clear hK
      try simp only [Act.put, List.setIfInBounds_toArray, List.set_cons_zero, List.set_cons_succ]
      have _hI : True := trivial
      clear _hI
      refine wpAnyH_ready (rs := [5]) (by kernel_rfl) (by simp) (consH rfl rfl (fun K hK => ?_) AllReadyH.nil)
      have _hI : True := trivial
      clear _hI
      refine wp_store_blk ?qty1 ?qex1 ?qey1 ?qho1 ?qgg1 ?qcc1 ?qhx1 ?qhy1 ?qtt1 ?qold1 ?qhb1 ?qhi1 ?qhd1 ?qh11 ?qre1
      case qcc1 => exact so
      case qty1 => exact 23
      case qtt1 => exact 23
      case qgg1 => exact g4
      case qold1 => exact z32
      case qex1 => exact (.tmp 4)
      case qey1 => exact (.tmp 30)
      case qho1 => rfl
      case qhb1 => exact X4.out
      case qhi1 => exact HIO.out
      case qhd1 => exact HOO.out
      case qh11 => exact ha2
      case qhx1 => rfl
      case qhy1 => rfl
      intro V hB hf
      have VB := Lib.hid hB
      have VF := Lib.hid (Fr0.new F7.out hf hl4)
      clear hf hB
      refine hK.out _ _ trivial ?_
      clear hK
      try simp only [Act.put, List.setIfInBounds_toArray, List.set_cons_zero, List.set_cons_succ]
      refine wpAnyH_done (by kernel_rfl) ?_ _
      have VBO := VB.out
      go_wp2_with fail
      refine bodyPost_ret (v := .agg so) (results_cell_row rfl _ _ g4 23 so (0, 0) _ rfl VBO Try.underlying23 rfl HIO.out) rfl ⟨by rw [HSO.out], VF.out⟩
end Go.Proofs.Ytgcjbbliaelkcaa
set_option linter.unusedSimpArgs false
set_option linter.unusedVariables false
namespace Go.Proofs.Ytgcjbbliaelkcaa
open Go.RowKit

/-- A mark of one text, its slice built before. -/
theorem mof_one {W : World} {g : Nat} {kv tv : Value} {key text : List UInt8} (hk : RdB W kv key) (hkl : key.length ≤ 900000) (ht : RdB W tv text) (htl : text.length ≤ 800000) (hb : Blk W g #[tv] 32) :
    Calls Try.prog 34 #[kv, .slice (some ⟨g, 0, none⟩) 1 1] W fun e w' => e = .returned (.agg (byts (macN key text)).toArray) ∧ Fr0 W w' := by
  have h := mof_any (w := W) (kv := kv) (key := key) (lv := .slice (some ⟨g, 0, none⟩) 1 1) (ds := [text]) (vs := [tv]) hk hkl
    ⟨rfl, ⟨_, _, rfl, by simp, by unfold maxLen; simp, fun h => by cases h⟩, fun _ => ⟨g, 0, 1, _, _, _, rfl, hb, fun j u hu => by simpa using hu⟩⟩
    (fun i hi => by
      simp at hi
      subst hi
      exact ⟨tv, rfl, ht⟩)
  have h2 := h (by simpa using htl)
  rw [show ([text] : List (List UInt8)).flatten = text from by simp] at h2
  exact h2
theorem yields_load_part {P : Program} {ops : Array Oper} {o : Oper} {a : Act} {S : World → Prop} (hgd : o.guard = none) (ty : TypeId) (x : Operand) (ho : o.op = .load ty x) (g off : Nat) (hx : a.eval x = .pointer (some ⟨g, off, none⟩)) (t : TypeId) (l : List UInt8) (n : Nat) (hS : ∀ w, S w → Blk w g (byts l).toArray t) (d : TypeDesc)
    (hu : P.underlying ty = some d) (hd : d.isRow = true) (hi : (P.info? ty).map (·.size) = some (byts ((l.drop off).take n)).length) : YieldsIf P ops S o (.agg (byts ((l.drop off).take n)).toArray) a :=
  yieldsIf_load_mid (P := P) (ops := ops) (S := S) (a := a) (op := o) (by simp [Region.wanted, hgd]) ty x ho g off hx (byts ((l.drop off).take n)) d (fun w hw j v hv => (hS w hw).range off n j v hv) hu hd hi
theorem rd64b {w : World} {g : Nat} {d : List UInt8} {t : TypeId} (h : Blk w g (byts d).toArray t) {n : Nat} (hn : d.length = n) (hm : n ≤ 100000) : RdB w (.slice (some ⟨g, 0, none⟩) n n) d := by
  have h1 := arr_rd h (o := 0) (k := n) (c := n) (by omega) (Nat.le_refl _) (by unfold maxLen; omega)
  rw [List.drop_zero, List.take_of_length_le (Nat.le_of_eq hn)] at h1
  exact h1
theorem key_mark {w : World} {g : Nat} {t : TypeId} {code mark : List UInt8} (hc : code.length = 16) (hm : mark.length = 32) (h : Blk w g (byts (code ++ mark)).toArray t) : RdB w (.slice (some ⟨g, 16, none⟩) 32 32) mark := by
  have h1 := arr_rd h (o := 16) (k := 32) (c := 32) (by rw [List.length_append]; omega) (Nat.le_refl _) (by unfold maxLen; omega)
  rw [← hc, List.drop_left, ← hm, List.take_length, hc, hm] at h1
  exact h1
theorem mac16 {w : World} {g : Nat} {t : TypeId} {m : List UInt8} (hm : m.length = 32) (h : Blk w g (byts m).toArray t) : RdB w (.slice (some ⟨g, 0, none⟩) 16 32) (m.take 16) := by
  have h1 := arr_rd h (o := 0) (k := 16) (c := 32) (by omega) (by omega) (by unfold maxLen; omega)
  rw [List.drop_zero] at h1
  exact h1
set_option maxHeartbeats 4000000 in
set_option maxRecDepth 10000 in
theorem seal_good {code mark text : List UInt8} {dn : Bool} {n : Nat} {tv : Value} {w : World} (hc : code.length = 16) (hm : mark.length = 32) (hn : n < 9223372036854775808) (ht : RdB w tv text) (hl : text.length ≤ 1200) :
    Calls Try.prog 16 #[.agg (byts (code ++ mark)).toArray, nonceV dn n, tv] w fun e w' => ∃ v, e = .returned (.tuple #[v, .int .i64 0]) ∧ w'.ownsRow w.heap.size 5 1 v (packL code mark (wordL dn n) text).length (byts (packL code mark (wordL dn n) text)) ∧ Fr0 w w' := by
  obtain ⟨At, ct, rfl, -, -, -⟩ := ht.form
  have hwd := word_lt dn hn
  have HWD := Lib.hid (fun W => show Calls Try.prog 42 #[nonceV dn n] W (fun e w' => e = .returned (.tuple #[.int .u64 (wordL dn n : Int), .int .i64 0]) ∧ Fr0 W w') by
    have h := nword_any (dn := dn) (n := n) (w := W) (by omega)
    rw [if_neg (by omega), if_neg (by omega)] at h
    exact h)
  obtain ⟨wd, hwd2⟩ : ∃ d, d = wordL dn n := ⟨_, rfl⟩
  rw [← hwd2] at HWD hwd ⊢
  have HFX := Lib.hid (fun W => show Calls Try.prog 28 #[.int .u64 (wd : Int), .int .i64 8] W (fun e w' => ∃ v, e = .returned v ∧ w'.ownsRow W.heap.size 5 1 v 8 (byts (fixForm wd 8)) ∧ Fr0 W w') by
    have h := wireFixed_any wd 8 hwd W
    rw [show fixed wd 8 = fixForm wd 8 from rfl, fixForm_len] at h
    exact h)
  have HTN := Lib.hid (fun W (hf : Fr0 w W) => show Calls Try.prog 39 #[.agg (byts code).toArray, .int .u64 (wd : Int), .slice At text.length ct] W (fun e w' => ∃ g, e = .returned (.slice (some ⟨g, 0, none⟩) text.length text.length) ∧ Blk w' g (byts (tnL code wd text)).toArray 5 ∧ W.heap.size ≤ g ∧ Fr0 W w') from pturn_any hc hwd (ht.fr0 hf) (by omega))
  have HPK := Lib.hid (packL_eq code mark wd text)
  have HPL := Lib.hid (show (packL code mark wd text).length = 8 + text.length + 16 by rw [packL_len]; omega)
  have HLT := Lib.hid (tnL_len code wd text)
  have HLF := Lib.hid (fixForm_len wd 8)
  have HT9 := Lib.hid (show text.length ≤ 100000 by omega)
  have HL := Lib.hid hl
  have HPI := Lib.hid (show (Try.prog.info? 22).map (·.size) = some (byts (((code ++ mark).drop 0).take 16)).length by rw [byts_len, List.drop_zero, List.length_take, List.length_append, hc, hm]; kernel_rfl)
  have HCD := Lib.hid (show ((code ++ mark).drop 0).take 16 = code by rw [List.drop_zero, ← hc, List.take_left])
  have hcodeq := HCD.out
  have K0 := Lib.hid ((Blk.new w (byts (code ++ mark)).toArray 25).alloc (.cells #[.bool dn, .int .u64 (n : Int)] 41))
  have N0 := Lib.hid (Blk.new (w.alloc (.cells (byts (code ++ mark)).toArray 25)) #[.bool dn, .int .u64 (n : Int)] 41)
  have F0 := Lib.hid (((Fr0.refl w).alloc (.cells (byts (code ++ mark)).toArray 25)).alloc (.cells #[.bool dn, .int .u64 (n : Int)] 41))
  have N1 := N0.out
  rw [World.size_alloc] at N1
  replace N0 := Lib.hid N1
  have HMK := Lib.hid (fun W g (h : Blk W g (byts (code ++ mark)).toArray 25) => key_mark hc hm h)
  have HML := Lib.hid (show mark.length ≤ 900000 by omega)
  obtain ⟨FX, hFX⟩ : ∃ f, f = fixForm wd 8 := ⟨_, rfl⟩
  rw [← hFX] at HFX HPK HLF
  obtain ⟨TX, hTX⟩ : ∃ f, f = tnL code wd text := ⟨_, rfl⟩
  rw [← hTX] at HTN HPK HLT
  obtain ⟨PK, hPK⟩ : ∃ f, f = packL code mark wd text := ⟨_, rfl⟩
  rw [← hPK] at HPK HPL ⊢
  obtain ⟨nt, hnt⟩ : ∃ f, f = text.length := ⟨_, rfl⟩
  rw [← hnt] at HTN HPL HLT HT9 HL ⊢
  obtain ⟨gk, hgk⟩ : ∃ f, f = w.heap.size := ⟨_, rfl⟩
  rw [← hgk] at K0 N0
  have HGK := Lib.hid hgk
  have t1 : decide ((1200 : Int) < (nt : Int)) = false := decide_eq_false (by omega)
  unfold nonceV at HWD ⊢
  obtain ⟨ckm, hckm⟩ : ∃ c, c = (byts (code ++ mark)).toArray := ⟨_, rfl⟩
  have HCK := Lib.hid hckm
  clear hcodeq N1 hFX hTX hPK hnt hwd2 ht hl hc hm hn hwd
  clear hgk
  go_enter Try.func16, Try.ntmps16
  go_upto_region 6 with (first
    | (go_at_call 42; refine (HWD.out _).mono ?_; rintro e w3 ⟨rfl, hf⟩; have F3 := Lib.hid (Fr0.trans F0.out hf); have K3 := Lib.hid ((K0.out).fr0 hf); clear hf)
    | (refine list_load_blk rfl 41 _ rfl (gk + 1) rfl 41 #[.bool dn, .int .u64 (n : Int)] N0.out _ Try.underlying41 rfl (by kernel_rfl) ?_))
  rw [← HGK.out]
  go_cut [10] (fun s10 wx => ∃ (A : Option Addr) (c : Nat), s10 = .slice A (8 + nt) c ∧ wx.ownsRow gk 5 1 (.slice A (8 + nt) c) (8 + nt) (byts (FX ++ TX)) ∧ Blk wx gk (byts (code ++ mark)).toArray 25 ∧ Fr0 w wx)
  case first =>
    have FA := Lib.hid ((F3.out).drew)
    have KA := Lib.hid ((K3.out).drew)
    have UF := Lib.hid (Fr0.refl w3.drew)
    clear F3 K3
    rw [← HCD.out] at HTN
    refine wp_region_held_drew (S := (fun W => Fr0 w3.drew W)) (by kernel_rfl) UF.out (fun hHeld => ?_)
    generalize w3.drew = wa at *
    have _hI : True := trivial
    clear _hI
    refine takeH (i := 0) rfl (by kernel_rfl) (by kernel_rfl) (by kernel_rfl) (fun _ _ _ h => h) (v := .int .u64 (wd : Int)) (.inl ⟨rfl, fun W hW => (by go_simp; try rfl)⟩) UF.out ?_
    try simp only [Act.put, List.setIfInBounds_toArray, List.set_cons_zero, List.set_cons_succ]
    have _hI : True := trivial
    clear _hI
    refine takeH (i := 2) rfl (by kernel_rfl) (by kernel_rfl) (by kernel_rfl) (fun _ _ _ h => h) (v := .pointer (some ⟨gk, 0, none⟩)) (.inl ⟨rfl, fun W hW => (by go_simp; try rfl)⟩) UF.out ?_
    try simp only [Act.put, List.setIfInBounds_toArray, List.set_cons_zero, List.set_cons_succ]
    have _hI : True := trivial
    clear _hI
    refine takeH (i := 3) rfl (by kernel_rfl) (by kernel_rfl) (by kernel_rfl) (fun _ _ _ h => h) (yields_load_part rfl 22 _ rfl gk 0 rfl 25 (code ++ mark) 16 (fun W hW => (KA.out).fr0 hW) _ Try.underlying22 rfl HPI.out) UF.out ?_
    try simp only [Act.put, List.setIfInBounds_toArray, List.set_cons_zero, List.set_cons_succ]
    have _hI : True := trivial
    clear _hI
    refine takeH (i := 4) rfl (by kernel_rfl) (by kernel_rfl) (by kernel_rfl) (fun _ _ _ h => h) (v := .int .u64 (wd : Int)) (.inl ⟨rfl, fun W hW => (by go_simp; try rfl)⟩) UF.out ?_
    try simp only [Act.put, List.setIfInBounds_toArray, List.set_cons_zero, List.set_cons_succ]
    have _hI : True := trivial
    clear _hI
    refine takeH (i := 5) rfl (by kernel_rfl) (by kernel_rfl) (by kernel_rfl) (fun _ _ _ h => h) (v := .slice At nt ct) (.inl ⟨rfl, fun W hW => (by go_simp; try rfl)⟩) UF.out ?_
    try simp only [Act.put, List.setIfInBounds_toArray, List.set_cons_zero, List.set_cons_succ]
    have _hI : True := trivial
    clear _hI
    refine wpAnyH_ready (rs := [1]) (by kernel_rfl) (by simp) (consG rfl rfl (fun K hK => ?_) AllReadyH.nil)
    have _hI : True := trivial
    clear _hI
    go_simp
    refine (HFX.out _).mono ?_
    rintro e Wn ⟨v, rfl, ho, hf⟩
    replace UF2 := Lib.hid (Fr0.trans UF.out hf)
    have VO := Lib.hid (own_baseW ho (UF.out).size)
    replace UF := UF2
    clear UF2 ho hf
    refine hK.out _ _ UF.out ?_
    clear hK
    try simp only [Act.put, List.setIfInBounds_toArray, List.set_cons_zero, List.set_cons_succ]
    have _hI : True := trivial
    clear _hI
    refine wpAnyH_ready (rs := [6]) (by kernel_rfl) (by simp) (consG rfl rfl (fun K hK => ?_) AllReadyH.nil)
    have _hI : True := trivial
    clear _hI
    go_simp
    refine (HTN.out _ (Fr0.trans FA.out UF.out)).mono ?_
    rintro e Wn ⟨gt, rfl, hb, hl, hf⟩
    replace UF2 := Lib.hid (Fr0.trans UF.out hf)
    have TB := Lib.hid hb
    replace VO := Lib.hid (own_fr VO.out hf (fun _ _ h => h))
    replace UF := UF2
    clear UF2 hb hl hf
    refine hK.out _ _ UF.out ?_
    clear hK
    try simp only [Act.put, List.setIfInBounds_toArray, List.set_cons_zero, List.set_cons_succ]
    have _hI : True := trivial
    clear _hI
    refine wpAnyH_ready (rs := [7]) (by kernel_rfl) (by simp) (consG rfl rfl (fun K hK => ?_) AllReadyH.nil)
    have _hI : True := trivial
    clear _hI
    refine wp_append_own (base := wa.heap.size) (n := 8) (d := FX) (e := TX) _ _ rfl (UF.out).size VO.out rfl (rd64b TB.out HLT.out HT9.out) rfl (by rw [HLT.out]; have := HT9.out; omega) ?_
    intro A7 c7 w7 hO hF
    replace UF := Lib.hid (Fr.then UF.out hF (fun i hi hl => by have := (own_lt' VO.out i hi).1; omega))
    rw [HLT.out] at hO ⊢
    have AO := Lib.hid hO
    clear hO hF
    refine hK.out _ _ UF.out ?_
    clear hK
    try simp only [Act.put, List.setIfInBounds_toArray, List.set_cons_zero, List.set_cons_succ]
    have _hI : True := trivial
    clear _hI
    refine takeH (i := 8) rfl (by kernel_rfl) (by kernel_rfl) (by kernel_rfl) (fun _ _ _ h => h) (v := .slice A7 (8 + nt) c7) (.inl ⟨rfl, fun W hW => (by go_simp; try rfl)⟩) UF.out ?_
    try simp only [Act.put, List.setIfInBounds_toArray, List.set_cons_zero, List.set_cons_succ]
    refine wpAnyH_done (by kernel_rfl) ?_ _
    go_wp2_with fail
    go_meet
    exact ⟨A7, c7, rfl, own_baseW AO.out (by rw [HGK.out]; exact (FA.out).size), (KA.out).fr0 UF.out, Fr0.trans FA.out UF.out⟩
  case rest =>
    obtain ⟨A, c, rfl, hO, hK, hF⟩ := hcut
    have O := Lib.hid hO
    have K := Lib.hid hK
    have F := Lib.hid hF
    clear hO hK hF F3 K3
    have HRUN := Lib.hid (fun W => z32_run W)
    have HIM := Lib.hid (dig_info (macN_len mark (FX ++ TX)))
    have HZM := Lib.hid (z32_size (macN_len mark (FX ++ TX)))
    have ham := byts_all (macN mark (FX ++ TX))
    have HM16 := Lib.hid (fun W g (h : Blk W g (byts (macN mark (FX ++ TX))).toArray 23) => mac16 (macN_len mark (FX ++ TX)) h)
    have HLH := Lib.hid (show (FX ++ TX).length = 8 + nt by rw [List.length_append, HLF.out, HLT.out])
    have HLM := Lib.hid (show ((macN mark (FX ++ TX)).take 16).length = 16 by rw [List.length_take, macN_len]; rfl)
    have HMO := Lib.hid (fun W g (hk : Blk W gk (byts (code ++ mark)).toArray 25) (ho : W.ownsRow gk 5 1 (.slice A (8 + nt) c) (8 + nt) (byts (FX ++ TX))) (hb : Blk W g #[.slice A (8 + nt) c] 32) =>
      mof_one (HMK.out W gk hk) HML.out (show RdB W (.slice A (8 + nt) c) (FX ++ TX) by have h := Rd.of_own ho; rw [← HLH.out] at h ⊢; exact h) (by rw [HLH.out]; have := HT9.out; omega) hb)
    obtain ⟨HD, hHD⟩ : ∃ h, h = FX ++ TX := ⟨_, rfl⟩
    rw [← hHD] at HPK HIM HZM ham HM16 HLH HLM HMO O
    obtain ⟨MC, hMC⟩ : ∃ h, h = macN mark HD := ⟨_, rfl⟩
    rw [← hMC] at HPK HIM HZM ham HM16 HLM HMO
    obtain ⟨MT, hMT⟩ : ∃ h, h = MC.take 16 := ⟨_, rfl⟩
    rw [← hMT] at HPK HM16 HLM
    obtain ⟨z, hz⟩ : ∃ z, z = z32A := ⟨_, rfl⟩
    rw [← hz] at HRUN HZM
    have HM9 := Lib.hid (show nt ≤ 100000 from HT9.out)
    have GKW := Lib.hid (show gk ≤ wc.heap.size by rw [HGK.out]; exact (F.out).size)
    clear hHD hMC hMT hz HMK HML HFX HTN HWD K0 N0 F0 HCD HPI HCK hckm
    go_wp2_with (first
      | (have _q := S5; refine wpList_plain rfl fun KK hKK => ?_; refine wp_append_own (base := gk) (n := 8 + nt) (d := HD) (e := MT) _ _ rfl G5.out O5.out rfl (HM16.out _ _ S5.out) rfl (by rw [HLM.out]; have := HM9.out; omega) ?_; intro A8 c8 w8 hO hF; refine hKK _ _ ?_; have O8 := Lib.hid hO; have F8 := Lib.hid (Fr.then F5.out hF (fun i hi hl => by have := (own_lt' O5.out i hi).1; have := HGK.out; omega)); clear hO hF)
      | (have _q := X4; refine list_store_blk rfl 23 _ _ rfl g11 (byts MC).toArray rfl rfl 23 z X4.out HIM.out HZM.out ham ?_; intro w5 hB hF; have S5 := Lib.hid hB; have F5 := Lib.hid (Fr0.new F4.out hF (Nat.le_trans (F3.out).size L4.out)); have O5 := Lib.hid (own_fr O4.out hF (fun k hk e => own_ne O4.out X4.out (by decide) _ hk e)); have G5 := Lib.hid (Nat.le_trans (Nat.le_trans GKW.out (Nat.le_trans (UF4.out).size (Nat.le_refl _))) hF.size); clear hB hF)
      | (have _q := F3; refine list_alloc_blk rfl 23 rfl z HRUN.out ?_; intro g11 w4 hB hF hl; have X4 := Lib.hid hB; have F4 := Lib.hid (Fr0.trans F3.out hF); have UF4 := Lib.hid (Fr0.trans UF3.out hF); have L4 := Lib.hid hl; have O4 := Lib.hid (own_fr O3.out hF (fun _ _ h => h)); clear hB hF hl)
      | (go_at_call 34; refine (HMO.out _ _ K2.out O2.out B2.out).mono ?_; rintro e w3' ⟨rfl, hf⟩; have F3 := Lib.hid (Fr0.trans F2.out hf); have UF3 := Lib.hid (Fr0.trans UF2.out hf); have O3 := Lib.hid (own_fr O2.out hf (fun _ _ h => h)); clear hf)
      | (refine list_built_blk rfl 39 32 _ _ rfl #[.slice A (8 + nt) c] (fun W => by go_simp; try rfl) ?_; intro gb w2 hB hF hl; have B2 := Lib.hid hB; have F2 := Lib.hid (Fr0.trans F.out hF); have UF2 := Lib.hid hF; have K2 := Lib.hid ((K.out).fr0 hF); have O2 := Lib.hid (own_fr O.out hF (fun _ _ h => h)); clear hB hF hl))
    go_ret2
    refine ⟨_, rfl, ?_, F8.out⟩
    rw [HPK.out, ← HGK.out, List.length_append, HLH.out]
    exact O8.out
set_option maxHeartbeats 4000000 in
set_option maxRecDepth 10000 in
theorem seal_far {code mark : List UInt8} {dn : Bool} {n : Nat} {tv : Value} {w : World} (hn : n < 18446744073709551616) (h2 : 9223372036854775808 ≤ n) :
    Calls Try.prog 16 #[.agg (byts (code ++ mark)).toArray, nonceV dn n, tv] w fun e w' => e = .returned (.tuple #[.slice none 0 0, .int .i64 2]) ∧ Fr0 w w' := by
  have HWD := Lib.hid (fun W => show Calls Try.prog 42 #[nonceV dn n] W (fun e w' => e = .returned (.tuple #[.int .u64 0, .int .i64 2]) ∧ Fr0 W w') by
    have h := nword_any (dn := dn) (n := n) (w := W) hn
    rw [if_pos h2, if_pos h2] at h
    exact h)
  obtain ⟨ck, hck⟩ : ∃ c, c = (byts (code ++ mark)).toArray := ⟨_, rfl⟩
  rw [← hck]
  have F0 := Lib.hid (((Fr0.refl w).alloc (.cells ck 25)).alloc (.cells #[.bool dn, .int .u64 (n : Int)] 41))
  unfold nonceV at HWD ⊢
  clear hck h2 hn
  go_enter Try.func16, Try.ntmps16
  go_wp2_with (go_at_call 42; refine (HWD.out _).mono ?_; rintro e w3 ⟨rfl, hf⟩; have F3 := Lib.hid (Fr0.trans F0.out hf); clear hf)
  go_ret2
  exact ⟨rfl, F3.out⟩
set_option maxHeartbeats 4000000 in
set_option maxRecDepth 10000 in
theorem seal_long {code mark text : List UInt8} {dn : Bool} {n : Nat} {tv : Value} {w : World} (hn : n < 9223372036854775808) (ht : RdB w tv text) (hl : 1200 < text.length) :
    Calls Try.prog 16 #[.agg (byts (code ++ mark)).toArray, nonceV dn n, tv] w fun e w' => e = .returned (.tuple #[.slice none 0 0, .int .i64 3]) ∧ Fr0 w w' := by
  obtain ⟨At, ct, rfl, -, -, -⟩ := ht.form
  have HWD := Lib.hid (fun W => show Calls Try.prog 42 #[nonceV dn n] W (fun e w' => e = .returned (.tuple #[.int .u64 (wordL dn n : Int), .int .i64 0]) ∧ Fr0 W w') by
    have h := nword_any (dn := dn) (n := n) (w := W) (by omega)
    rw [if_neg (by omega), if_neg (by omega)] at h
    exact h)
  obtain ⟨wd, hwd2⟩ : ∃ d, d = wordL dn n := ⟨_, rfl⟩
  rw [← hwd2] at HWD
  obtain ⟨nt, hnt⟩ : ∃ f, f = text.length := ⟨_, rfl⟩
  rw [← hnt] at hl ⊢
  have t1 : decide ((1200 : Int) < (nt : Int)) = true := decide_eq_true (by omega)
  obtain ⟨ck, hck⟩ : ∃ c, c = (byts (code ++ mark)).toArray := ⟨_, rfl⟩
  rw [← hck]
  have F0 := Lib.hid (((Fr0.refl w).alloc (.cells ck 25)).alloc (.cells #[.bool dn, .int .u64 (n : Int)] 41))
  unfold nonceV at HWD ⊢
  clear hck hn hnt hl ht hwd2
  go_enter Try.func16, Try.ntmps16
  go_wp2_with (go_at_call 42; refine (HWD.out _).mono ?_; rintro e w3 ⟨rfl, hf⟩; have F3 := Lib.hid (Fr0.trans F0.out hf); clear hf)
  go_ret2
  exact ⟨rfl, F3.out⟩
/-- What Seal answers. -/
def sealP (code mark : List UInt8) (dn : Bool) (n : Nat) (text : List UInt8) : List UInt8 × Int := if 9223372036854775808 ≤ n then ([], 2) else if 1200 < text.length then ([], 3) else (packL code mark (wordL dn n) text, 0)
theorem seal_any {code mark text : List UInt8} {dn : Bool} {n : Nat} {tv : Value} {w : World} (hc : code.length = 16) (hm : mark.length = 32) (hn : n < 18446744073709551616) (ht : RdB w tv text) :
    Calls Try.prog 16 #[.agg (byts (code ++ mark)).toArray, nonceV dn n, tv] w fun e w' => ∃ v, e = .returned (.tuple #[v, .int .i64 (sealP code mark dn n text).2]) ∧ w'.ownsRow w.heap.size 5 1 v (sealP code mark dn n text).1.length (byts (sealP code mark dn n text).1) ∧ Fr0 w w' := by
  by_cases h2 : 9223372036854775808 ≤ n
  · rw [show sealP code mark dn n text = ([], 2) from if_pos h2]
    refine (seal_far hn h2).mono ?_
    rintro e w' ⟨rfl, hf⟩
    exact ⟨_, rfl, World.ownsRow_nil _ _ _ _, hf⟩
  by_cases h3 : 1200 < text.length
  · rw [show sealP code mark dn n text = ([], 3) by unfold sealP; rw [if_neg h2, if_pos h3]]
    refine (seal_long (by omega) ht h3).mono ?_
    rintro e w' ⟨rfl, hf⟩
    exact ⟨_, rfl, World.ownsRow_nil _ _ _ _, hf⟩
  rw [show sealP code mark dn n text = (packL code mark (wordL dn n) text, 0) by unfold sealP; rw [if_neg h2, if_neg h3]]
  exact seal_good hc hm (by omega) ht (by omega)
end Go.Proofs.Ytgcjbbliaelkcaa
set_option linter.unusedSimpArgs false
set_option linter.unusedVariables false
namespace Go.Proofs.Ytgcjbbliaelkcaa
open Go.RowKit

/-- What stands ahead of a text. -/
def sendT (s : Lk) (now : Int) : List UInt8 := fixForm (now % 65535).toNat 2 ++ fixForm (echoV s now).toNat 2
theorem sendT_len (s : Lk) (now : Int) : (sendT s now).length = 4 := by unfold sendT; rw [List.length_append, fixForm_len, fixForm_len]
def sentLk (s : Lk) : Lk := { s with next := s.next + 1, eis := false, stamp := 0, eat := 0 }
theorem yields_load_cells {P : Program} {ops : Array Oper} {o : Oper} {a : Act} {S : World → Prop} (hgd : o.guard = none) (ty : TypeId) (x : Operand) (ho : o.op = .load ty x) (g off : Nat) (hx : a.eval x = .pointer (some ⟨g, off, none⟩)) (cs : List Value) (hS : ∀ w, S w → ∀ j v, cs[j]? = some v → w.cell? ⟨g, off + j, none⟩ = some v) (d : TypeDesc)
    (hu : P.underlying ty = some d) (hd : d.isRow = true) (hi : (P.info? ty).map (·.size) = some cs.length) : YieldsIf P ops S o (.agg cs.toArray) a :=
  yieldsIf_load_mid (P := P) (ops := ops) (S := S) (a := a) (op := o) (by simp [Region.wanted, hgd]) ty x ho g off hx cs d (fun w hw j v hv => hS w hw j v hv) hu hd hi
theorem send_nil (now : Int) (tv : Value) (w : World) : Calls Try.prog 10 #[.pointer none, .int .i64 now, tv] w fun e w' => e = .returned (.tuple #[.slice none 0 0, .int .i64 1]) ∧ Fr0 w w' := by
  have HT := Lib.hid (lthere_nil w)
  go_enter Try.func10, Try.ntmps10
  go_wp2_with (go_at_call 26; refine (HT.out).mono ?_; rintro e w' ⟨rfl, rfl⟩)
  go_ret2
  exact ⟨rfl, Fr0.refl w⟩
theorem send_off {p : Nat} {s : Lk} {w : World} (h : LkV w p s) (hm : s.made = false) (now : Int) (tv : Value) : Calls Try.prog 10 #[.pointer (some ⟨p, 0, none⟩), .int .i64 now, tv] w fun e w' => e = .returned (.tuple #[.slice none 0 0, .int .i64 1]) ∧ Fr0 w w' := by
  have HT := Lib.hid (lthere_any h)
  rw [hm] at HT
  clear h hm
  go_enter Try.func10, Try.ntmps10
  go_wp2_with (go_at_call 26; refine (HT.out).mono ?_; rintro e w' ⟨rfl, rfl⟩)
  go_ret2
  exact ⟨rfl, Fr0.refl w⟩
/-- What stands against a text that is to be sent. -/
def sendE (s : Lk) (now : Int) (n : Nat) : Int := if ¬ (0 ≤ now ∧ now ≤ 1099511627776) then 2 else if 1196 < n then 3 else if 9223372036854775808 ≤ s.next then 91 else 0
set_option maxHeartbeats 1000000 in
theorem send_bad {p : Nat} {s : Lk} {w : World} {now : Int} {text : List UInt8} {tv : Value} (h : LkV w p s) (hm : s.made = true) (ht : RdB w tv text) (he : sendE s now text.length ≠ 0) :
    Calls Try.prog 10 #[.pointer (some ⟨p, 0, none⟩), .int .i64 now, tv] w fun e w' => e = .returned (.tuple #[.slice none 0 0, .int .i64 (sendE s now text.length)]) ∧ Fr0 w w' := by
  obtain ⟨At, ct, rfl, -, -, -⟩ := ht.form
  have HT := Lib.hid (lthere_any h)
  rw [hm] at HT
  have HTI := Lib.hid (time_any now w)
  have c50 : w.cell? ⟨p, 50, none⟩ = some (.int .u64 (s.next : Int)) := h.cell 1 rfl
  obtain ⟨n, hn⟩ : ∃ n, n = text.length := ⟨_, rfl⟩
  rw [← hn] at he ⊢
  unfold sendE at he ⊢
  by_cases h1 : 0 ≤ now ∧ now ≤ 1099511627776
  · rw [if_neg (by simpa using h1)] at he ⊢
    rw [decide_eq_true h1] at HTI
    by_cases h2 : 1196 < n
    · rw [if_pos h2]
      have t2 : decide ((1196 : Int) < (n : Int)) = true := decide_eq_true (by omega)
      clear h1 h2 he hn h hm ht
      go_enter Try.func10, Try.ntmps10
      go_wp2_with (first
        | (go_at_call 26; refine (HT.out).mono ?_; rintro e w' ⟨rfl, rfl⟩)
        | (go_at_call 27; refine (HTI.out).mono ?_; rintro e w' ⟨rfl, rfl⟩))
      go_ret2
      exact ⟨rfl, Fr0.refl w⟩
    · rw [if_neg h2] at he ⊢
      have h3 : 9223372036854775808 ≤ s.next := by
        by_cases h3 : 9223372036854775808 ≤ s.next
        · exact h3
        · rw [if_neg h3] at he; exact absurd rfl he
      rw [if_pos h3]
      have t2 : decide ((1196 : Int) < (n : Int)) = false := decide_eq_false (by omega)
      have t3 : decide ((9223372036854775808 : Int) ≤ (s.next : Int)) = true := decide_eq_true (by omega)
      clear h1 h2 he hn h hm ht h3
      go_enter Try.func10, Try.ntmps10
      go_wp2_with (first
        | (go_at_call 26; refine (HT.out).mono ?_; rintro e w' ⟨rfl, rfl⟩)
        | (go_at_call 27; refine (HTI.out).mono ?_; rintro e w' ⟨rfl, rfl⟩))
      go_ret2
      exact ⟨rfl, Fr0.refl w⟩
  · rw [if_pos (by simpa using h1)]
    rw [decide_eq_false h1] at HTI
    clear h1 he hn h hm ht
    go_enter Try.func10, Try.ntmps10
    go_wp2_with (first
      | (go_at_call 26; refine (HT.out).mono ?_; rintro e w' ⟨rfl, rfl⟩)
      | (go_at_call 27; refine (HTI.out).mono ?_; rintro e w' ⟨rfl, rfl⟩))
    go_ret2
    exact ⟨rfl, Fr0.refl w⟩
theorem sent_set {w : World} {p : Nat} {s : Lk} (h : LkV w p s) : LkV ((((w.setCell ⟨p, 50, none⟩ (.int .u64 ((s.next : Int) + 1))).setCell ⟨p, 57, none⟩ (.bool false)).setCell ⟨p, 58, none⟩ (.int .i64 0)).setCell ⟨p, 59, none⟩ (.int .i64 0)) p (sentLk s) := by
  have h1 : LkV (w.setCell ⟨p, 50, none⟩ (.int .u64 ((s.next : Int) + 1))) p { s with next := s.next + 1 } := h.put 1 _ (by simp [lkT]) rfl rfl
  have h2 : LkV _ p { s with next := s.next + 1, eis := false } := h1.put 8 (.bool false) rfl rfl rfl
  have h3 : LkV _ p { s with next := s.next + 1, eis := false, stamp := 0 } := h2.put 9 (.int .i64 0) rfl rfl rfl
  exact h3.put 10 (.int .i64 0) rfl rfl rfl
set_option maxHeartbeats 4000000 in
set_option maxRecDepth 100000 in
theorem send_good {p : Nat} {s : Lk} {w : World} {now : Int} {code mark text : List UInt8} {tv : Value} (h : LkV w p s) (hm : s.made = true) (ht : RdB w tv text) (hkey : s.key = code ++ mark) (hc : code.length = 16) (hmk : mark.length = 32)
    (hnow : 0 ≤ now ∧ now ≤ 1099511627776) (hl : text.length ≤ 1196) (hn : s.next < 9223372036854775808) (hst : 0 ≤ s.stamp ∧ s.stamp ≤ 65535) (het : 0 ≤ s.eat ∧ s.eat ≤ 1099511627776) :
    Calls Try.prog 10 #[.pointer (some ⟨p, 0, none⟩), .int .i64 now, tv] w fun e w' => ∃ A c, e = .returned (.tuple #[.slice A (text.length + 28) c, .int .i64 0]) ∧ w'.ownsRow w.heap.size 5 1 (.slice A (text.length + 28) c) (text.length + 28) (byts (packL code mark (wordL s.down s.next) (sendT s now ++ text))) ∧ LkV w' p (sentLk s) ∧ Fr1 p w w' := by
  obtain ⟨At, ct, rfl, -, -, -⟩ := ht.form
  have HT := Lib.hid (lthere_any h)
  rw [hm] at HT
  have HTI := Lib.hid (time_any now w)
  rw [decide_eq_true hnow] at HTI
  have c50 : w.cell? ⟨p, 50, none⟩ = some (.int .u64 (s.next : Int)) := h.cell 1 rfl
  have t3 : decide ((9223372036854775808 : Int) ≤ (s.next : Int)) = false := decide_eq_false (by omega)
  have er := echoV_range s now
  have HE := Lib.hid (fun W (h : LkV W p s) => echoes_any h hnow hst het)
  obtain ⟨ev, hev⟩ : ∃ n : Nat, n = (echoV s now).toNat := ⟨_, rfl⟩
  rw [show echoV s now = (ev : Int) by omega] at HE
  obtain ⟨nm, hnm⟩ : ∃ n : Nat, n = (now % 65535).toNat := ⟨_, rfl⟩
  have q1 : now.tmod 65535 = (nm : Int) := by rw [Int.tmod_eq_emod_of_nonneg hnow.1]; omega
  have q2 : IntKind.i64.wrap (nm : Int) = (nm : Int) := IntWalk.i64_in _ (by omega)
  have q3 : IntKind.u64.wrap (nm : Int) = (nm : Int) := by rw [IntKind.wrap_u64]; omega
  have q4 : IntKind.u64.wrap (ev : Int) = (ev : Int) := by rw [IntKind.wrap_u64]; omega
  have HF1 := Lib.hid (fun W => show Calls Try.prog 28 #[.int .u64 (nm : Int), .int .i64 2] W (fun e w' => ∃ A c, e = .returned (.slice A 2 c) ∧ w'.ownsRow W.heap.size 5 1 (.slice A 2 c) 2 (byts (fixForm nm 2)) ∧ Fr0 W w') from (wireFixed_any nm 2 (by omega) W).mono (by
    rintro e w' ⟨v, rfl, ho, hf⟩
    rw [show fixed nm 2 = fixForm nm 2 from rfl, fixForm_len] at ho
    obtain ⟨A, c, rfl, -, -, -⟩ := own_form ho
    exact ⟨A, c, rfl, ho, hf⟩))
  have HF2 := Lib.hid (fun W => show Calls Try.prog 28 #[.int .u64 (ev : Int), .int .i64 2] W (fun e w' => ∃ A c, e = .returned (.slice A 2 c) ∧ w'.ownsRow W.heap.size 5 1 (.slice A 2 c) 2 (byts (fixForm ev 2)) ∧ Fr0 W w') from (wireFixed_any ev 2 (by omega) W).mono (by
    rintro e w' ⟨v, rfl, ho, hf⟩
    rw [show fixed ev 2 = fixForm ev 2 from rfl, fixForm_len] at ho
    obtain ⟨A, c, rfl, -, -, -⟩ := own_form ho
    exact ⟨A, c, rfl, ho, hf⟩))
  have HSD := Lib.hid (show fixForm nm 2 ++ fixForm ev 2 = sendT s now by unfold sendT; rw [hnm, hev])
  have HL1 := Lib.hid (fixForm_len nm 2)
  have HL2 := Lib.hid (fixForm_len ev 2)
  have HL4 := Lib.hid (sendT_len s now)
  obtain ⟨m4, hm4⟩ : ∃ n, n = 4 + text.length := ⟨_, rfl⟩
  obtain ⟨mp, hmp⟩ : ∃ n, n = text.length + 28 := ⟨_, rfl⟩
  have HXL := Lib.hid (show (sendT s now ++ text).length = m4 by rw [List.length_append, sendT_len, hm4])
  have HSE := Lib.hid (fun W A c (hr : RdB W (.slice A m4 c) (sendT s now ++ text)) => show Calls Try.prog 16 #[.agg (byts s.key).toArray, .agg #[.bool s.down, .int .u64 (s.next : Int)], .slice A m4 c] W (fun e w' => ∃ A c, e = .returned (.tuple #[.slice A mp c, .int .i64 0]) ∧ w'.ownsRow W.heap.size 5 1 (.slice A mp c) mp (byts (packL code mark (wordL s.down s.next) (sendT s now ++ text))) ∧ Fr0 W w') by
    rw [hkey]
    refine (seal_good (dn := s.down) hc hmk hn hr (by rw [HXL.out]; omega)).mono ?_
    rintro e w' ⟨v, rfl, ho, hf⟩
    rw [packL_len, HXL.out, show m4 + 24 = mp by omega] at ho
    obtain ⟨A, c, rfl, -, -, -⟩ := own_form ho
    exact ⟨A, c, rfl, ho, hf⟩)
  have HLV := Lib.hid h
  have HTX := Lib.hid (show RdB w (.slice At text.length ct) text from ht)
  have HPI := Lib.hid (show (Try.prog.info? 25).map (·.size) = some (byts s.key).length by rw [show (byts s.key).length = 48 by simp [byts, h.len]]; kernel_rfl)
  have HPE := Lib.hid (show mp = text.length + 28 from hmp)
  have q5 : IntKind.u64.wrap ((s.next : Int) + 1) = (s.next : Int) + 1 := by rw [IntKind.wrap_u64]; omega
  rw [← hmp]
  obtain ⟨pk, hpk⟩ : ∃ l, l = packL code mark (wordL s.down s.next) (sendT s now ++ text) := ⟨_, rfl⟩
  rw [← hpk] at HSE ⊢
  obtain ⟨st, hst2⟩ : ∃ l, l = sendT s now := ⟨_, rfl⟩
  rw [← hst2] at HSD HL4 HXL HSE
  obtain ⟨n, hnn⟩ : ∃ n, n = text.length := ⟨_, rfl⟩
  rw [← hnn] at HTX HPE hl hm4 hmp ⊢
  have HNN := Lib.hid hnn
  have t2 : decide ((1196 : Int) < (n : Int)) = false := decide_eq_false (by omega)
  have HM4 := Lib.hid (show n ≤ 1196 by omega)
  clear ht h hm hnow hl hn hst het er hev hnm hkey hc hmk hm4 hmp hpk hst2 hnn
  go_enter Try.func10, Try.ntmps10
  go_upto_region 10 with (first
    | (have _q := O3; at_builtin; refine wpList_plain rfl fun KK hKK => ?_; refine wp_append_own (base := w.heap.size) (n := 2) (d := fixForm nm 2) (e := fixForm ev 2) _ _ rfl (F3.out).size O1.out rfl (show RdB _ _ _ by have h := Rd.of_own O3.out; unfold RdB; rw [HL2.out]; exact h) rfl (by rw [HL2.out]; decide) ?_; intro A4 c4 w4 hO hF; refine hKK _ _ ?_; have O4 := Lib.hid (show w4.ownsRow w.heap.size 5 1 (.slice A4 4 c4) 4 (byts st) from by have h := hO; rw [HSD.out, HL2.out] at h; exact h); have F4 := Lib.hid (Fr.then F3.out hF (fun i hi hl => by have := (own_lt' O1.out i hi).1; omega)); rw [HL2.out]; clear hO hF)
    | (have _q := F2; go_at_call 28; refine (HF2.out _).mono ?_; rintro e w3 ⟨A3, c3, rfl, ho, hf⟩; have O3 := Lib.hid ho; replace O1 := Lib.hid (own_fr O1.out hf (fun _ _ h => h)); have F3 := Lib.hid (Fr0.trans F2.out hf); clear ho hf)
    | (have _q := O1; go_at_call 29; refine (HE.out _ ((HLV.out).fr0 F1.out)).mono ?_; rintro e w2 ⟨rfl, hf⟩; replace O1 := Lib.hid (own_fr O1.out hf (fun _ _ h => h)); have F2 := Lib.hid (Fr0.trans F1.out hf); clear hf)
    | (go_at_call 28; refine (HF1.out _).mono ?_; rintro e w1 ⟨A1, c1, rfl, ho, hf⟩; have O1 := Lib.hid ho; have F1 := Lib.hid hf; clear ho hf)
    | (go_at_call 26; refine (HT.out).mono ?_; rintro e w' ⟨rfl, rfl⟩)
    | (go_at_call 27; refine (HTI.out).mono ?_; rintro e w' ⟨rfl, rfl⟩))
  go_cut [9, 10] (fun s9 s10 wx => ∃ A c, s9 = .slice A mp c ∧ s10 = .int .i64 0 ∧ wx.ownsRow w.heap.size 5 1 (.slice A mp c) mp (byts pk) ∧ LkV wx p s ∧ Fr0 w wx)
  case first =>
    have FA := Lib.hid ((F4.out).drew)
    have VO := Lib.hid (show w4.drew.ownsRow w.heap.size 5 1 (.slice A4 4 c4) 4 (byts st) from own_fr O4.out ((Fr0.refl w4).drew) (fun _ _ h => h))
    have LV := Lib.hid ((HLV.out).fr0 FA.out)
    clear F1 F2 F3 F4 O1 O3 O4 HF1 HF2 HE c50
    refine wp_region_held_drew (S := (fun W => LkV W p s)) (by kernel_rfl) LV.out (fun hHeld => ?_)
    generalize w4.drew = wa at *
    have _hI : True := trivial
    clear _hI
    refine takeH (i := 0) rfl (by kernel_rfl) (by kernel_rfl) (by kernel_rfl) (fun _ _ _ h => h) (v := .pointer (some ⟨p, 0, none⟩)) (.inl ⟨rfl, fun W hW => (by go_simp; try rfl)⟩) LV.out ?_
    try simp only [Act.put, List.setIfInBounds_toArray, List.set_cons_zero, List.set_cons_succ]
    have _hI : True := trivial
    clear _hI
    refine takeH (i := 1) rfl (by kernel_rfl) (by kernel_rfl) (by kernel_rfl) (fun _ _ _ h => h) (v := .pointer (some ⟨p, 0, none⟩)) (.inl ⟨rfl, fun W hW => (by go_simp; try rfl)⟩) LV.out ?_
    try simp only [Act.put, List.setIfInBounds_toArray, List.set_cons_zero, List.set_cons_succ]
    have _hI : True := trivial
    clear _hI
    refine takeH (i := 2) rfl (by kernel_rfl) (by kernel_rfl) (by kernel_rfl) (fun _ _ _ h => h) (v := .pointer (some ⟨p, 1, none⟩)) (.inl ⟨rfl, fun W hW => (by go_simp; try rfl)⟩) LV.out ?_
    try simp only [Act.put, List.setIfInBounds_toArray, List.set_cons_zero, List.set_cons_succ]
    have _hI : True := trivial
    clear _hI
    refine takeH (i := 3) rfl (by kernel_rfl) (by kernel_rfl) (by kernel_rfl) (fun _ _ _ h => h) (yields_load_cells rfl 25 _ rfl p 1 rfl (byts s.key) (fun W hW => hW.keyAt) _ Try.underlying25 rfl HPI.out) LV.out ?_
    try simp only [Act.put, List.setIfInBounds_toArray, List.set_cons_zero, List.set_cons_succ]
    have _hI : True := trivial
    clear _hI
    refine takeH (i := 4) rfl (by kernel_rfl) (by kernel_rfl) (by kernel_rfl) (fun _ _ _ h => h) (v := .pointer (some ⟨p, 0, none⟩)) (.inl ⟨rfl, fun W hW => (by go_simp; try rfl)⟩) LV.out ?_
    try simp only [Act.put, List.setIfInBounds_toArray, List.set_cons_zero, List.set_cons_succ]
    have _hI : True := trivial
    clear _hI
    refine takeH (i := 5) rfl (by kernel_rfl) (by kernel_rfl) (by kernel_rfl) (fun _ _ _ h => h) (v := .pointer (some ⟨p, 0, none⟩)) (.inl ⟨rfl, fun W hW => (by go_simp; try rfl)⟩) LV.out ?_
    try simp only [Act.put, List.setIfInBounds_toArray, List.set_cons_zero, List.set_cons_succ]
    have _hI : True := trivial
    clear _hI
    refine takeH (i := 6) rfl (by kernel_rfl) (by kernel_rfl) (by kernel_rfl) (fun _ _ _ h => h) (v := .pointer (some ⟨p, 49, none⟩)) (.inl ⟨rfl, fun W hW => (by go_simp; try rfl)⟩) LV.out ?_
    try simp only [Act.put, List.setIfInBounds_toArray, List.set_cons_zero, List.set_cons_succ]
    have _hI : True := trivial
    clear _hI
    refine takeH (i := 7) rfl (by kernel_rfl) (by kernel_rfl) (by kernel_rfl) (fun _ _ _ h => h) (v := .bool s.down) (.inl ⟨rfl, fun W hW => (by have c49 : W.cell? ⟨p, 49, none⟩ = some (.bool s.down) := hW.cell 0 rfl; go_simp; try rfl)⟩) LV.out ?_
    try simp only [Act.put, List.setIfInBounds_toArray, List.set_cons_zero, List.set_cons_succ]
    have _hI : True := trivial
    clear _hI
    refine takeH (i := 8) rfl (by kernel_rfl) (by kernel_rfl) (by kernel_rfl) (fun _ _ _ h => h) (v := .pointer (some ⟨p, 0, none⟩)) (.inl ⟨rfl, fun W hW => (by go_simp; try rfl)⟩) LV.out ?_
    try simp only [Act.put, List.setIfInBounds_toArray, List.set_cons_zero, List.set_cons_succ]
    have _hI : True := trivial
    clear _hI
    refine takeH (i := 9) rfl (by kernel_rfl) (by kernel_rfl) (by kernel_rfl) (fun _ _ _ h => h) (v := .pointer (some ⟨p, 0, none⟩)) (.inl ⟨rfl, fun W hW => (by go_simp; try rfl)⟩) LV.out ?_
    try simp only [Act.put, List.setIfInBounds_toArray, List.set_cons_zero, List.set_cons_succ]
    have _hI : True := trivial
    clear _hI
    refine takeH (i := 10) rfl (by kernel_rfl) (by kernel_rfl) (by kernel_rfl) (fun _ _ _ h => h) (v := .pointer (some ⟨p, 50, none⟩)) (.inl ⟨rfl, fun W hW => (by go_simp; try rfl)⟩) LV.out ?_
    try simp only [Act.put, List.setIfInBounds_toArray, List.set_cons_zero, List.set_cons_succ]
    have _hI : True := trivial
    clear _hI
    refine takeH (i := 11) rfl (by kernel_rfl) (by kernel_rfl) (by kernel_rfl) (fun _ _ _ h => h) (v := .int .u64 (s.next : Int)) (.inl ⟨rfl, fun W hW => (by have c50 : W.cell? ⟨p, 50, none⟩ = some (.int .u64 (s.next : Int)) := hW.cell 1 rfl; go_simp; try rfl)⟩) LV.out ?_
    try simp only [Act.put, List.setIfInBounds_toArray, List.set_cons_zero, List.set_cons_succ]
    have _hI : True := trivial
    clear _hI
    refine takeH (i := 12) rfl (by kernel_rfl) (by kernel_rfl) (by kernel_rfl) (fun _ _ _ h => h) (v := .agg #[.bool s.down, .int .u64 (s.next : Int)]) (.inl ⟨rfl, fun W hW => (by go_simp; try rfl)⟩) LV.out ?_
    try simp only [Act.put, List.setIfInBounds_toArray, List.set_cons_zero, List.set_cons_succ]
    have _hI : True := trivial
    clear _hI
    refine takeH (i := 13) rfl (by kernel_rfl) (by kernel_rfl) (by kernel_rfl) (fun _ _ _ h => h) (v := .slice A4 4 c4) (.inl ⟨rfl, fun W hW => (by go_simp; try rfl)⟩) LV.out ?_
    try simp only [Act.put, List.setIfInBounds_toArray, List.set_cons_zero, List.set_cons_succ]
    have _hI : True := trivial
    clear _hI
    refine takeH (i := 14) rfl (by kernel_rfl) (by kernel_rfl) (by kernel_rfl) (fun _ _ _ h => h) (v := .slice At n ct) (.inl ⟨rfl, fun W hW => (by go_simp; try rfl)⟩) LV.out ?_
    try simp only [Act.put, List.setIfInBounds_toArray, List.set_cons_zero, List.set_cons_succ]
    have _hI : True := trivial
    clear _hI
    refine wpAnyH_ready (rs := [15]) (by kernel_rfl) (by simp) (consG rfl rfl (fun K hK => ?_) AllReadyH.nil)
    have _hI : True := trivial
    clear _hI
    refine wp_append_own (base := w.heap.size) (n := 4) (d := st) (e := text) _ _ rfl (FA.out).size VO.out rfl (show RdB _ _ _ from (HTX.out).fr0 FA.out) rfl (by rw [← HNN.out]; have := HM4.out; omega) ?_
    intro A5 c5 w5 hO hF
    have VX := VO.out
    replace LV := Lib.hid ((LV.out).fr hF (fun hp => own_ne VX (LV.out).blk (by decide) p hp rfl))
    replace FA := Lib.hid (show Fr0 w w5 from Fr.then FA.out hF (fun i hi hl => by have := (own_lt' VX i hi).1; omega))
    have XO := Lib.hid (show RdB w5 (.slice A5 m4 c5) (st ++ text) from by have h := Rd.of_own hO; rw [← HNN.out, show 4 + n = m4 from by rw [← HXL.out, List.length_append, HL4.out, ← HNN.out]] at h; unfold RdB; rw [HXL.out]; exact h)
    rw [show 4 + text.length = m4 from by rw [← HXL.out, List.length_append, HL4.out]]
    clear hO hF VX
    refine hK.out _ _ LV.out ?_
    clear hK
    try simp only [Act.put, List.setIfInBounds_toArray, List.set_cons_zero, List.set_cons_succ]
    have _hI : True := trivial
    clear _hI
    refine wpAnyH_ready (rs := [16]) (by kernel_rfl) (by simp) (consG rfl rfl (fun K hK => ?_) AllReadyH.nil)
    have _hI : True := trivial
    clear _hI
    go_simp
    refine (HSE.out _ _ _ XO.out).mono ?_
    rintro e Wn ⟨A6, c6, rfl, ho, hf⟩
    have SO := Lib.hid (own_baseW ho (FA.out).size)
    replace LV := Lib.hid ((LV.out).fr0 hf)
    replace FA := Lib.hid (Fr0.trans FA.out hf)
    clear ho hf
    refine hK.out _ _ LV.out ?_
    clear hK
    try simp only [Act.put, List.setIfInBounds_toArray, List.set_cons_zero, List.set_cons_succ]
    have _hI : True := trivial
    clear _hI
    refine takeH (i := 17) rfl (by kernel_rfl) (by kernel_rfl) (by kernel_rfl) (fun _ _ _ h => h) (v := .tuple #[.slice A6 mp c6, .int .i64 0]) (.inl ⟨rfl, fun W hW => (by go_simp; try rfl)⟩) LV.out ?_
    try simp only [Act.put, List.setIfInBounds_toArray, List.set_cons_zero, List.set_cons_succ]
    have _hI : True := trivial
    clear _hI
    refine takeH (i := 18) rfl (by kernel_rfl) (by kernel_rfl) (by kernel_rfl) (fun _ _ _ h => h) (v := .slice A6 mp c6) (.inl ⟨rfl, fun W hW => (by go_simp; try rfl)⟩) LV.out ?_
    try simp only [Act.put, List.setIfInBounds_toArray, List.set_cons_zero, List.set_cons_succ]
    have _hI : True := trivial
    clear _hI
    refine takeH (i := 19) rfl (by kernel_rfl) (by kernel_rfl) (by kernel_rfl) (fun _ _ _ h => h) (v := .int .i64 0) (.inl ⟨rfl, fun W hW => (by go_simp; try rfl)⟩) LV.out ?_
    try simp only [Act.put, List.setIfInBounds_toArray, List.set_cons_zero, List.set_cons_succ]
    have _hI : True := trivial
    clear _hI
    refine takeH (i := 20) rfl (by kernel_rfl) (by kernel_rfl) (by kernel_rfl) (fun _ _ _ h => h) (v := .slice A6 mp c6) (.inl ⟨rfl, fun W hW => (by go_simp; try rfl)⟩) LV.out ?_
    try simp only [Act.put, List.setIfInBounds_toArray, List.set_cons_zero, List.set_cons_succ]
    have _hI : True := trivial
    clear _hI
    refine takeH (i := 21) rfl (by kernel_rfl) (by kernel_rfl) (by kernel_rfl) (fun _ _ _ h => h) (v := .int .i64 0) (.inl ⟨rfl, fun W hW => (by go_simp; try rfl)⟩) LV.out ?_
    try simp only [Act.put, List.setIfInBounds_toArray, List.set_cons_zero, List.set_cons_succ]
    refine wpAnyH_done (by kernel_rfl) ?_ _
    go_wp2_with fail
    go_meet
    exact ⟨A6, c6, rfl, rfl, SO.out, LV.out, FA.out⟩
  case rest =>
    obtain ⟨A, c, rfl, rfl, hO, hL, hF⟩ := hcut
    have O := Lib.hid hO
    have L := Lib.hid hL
    have F := Lib.hid hF
    have b50 : wc.cell? ⟨p, 50, none⟩ = some (.int .u64 (s.next : Int)) := hL.cell 1 rfl
    have b57 : wc.cell? ⟨p, 57, none⟩ = some (.bool s.eis) := hL.cell 8 rfl
    have b58 : wc.cell? ⟨p, 58, none⟩ = some (.int .i64 s.stamp) := hL.cell 9 rfl
    have b59 : wc.cell? ⟨p, 59, none⟩ = some (.int .i64 s.eat) := hL.cell 10 rfl
    have f50 := hL.free 50
    have f57 := hL.free 57
    have f58 := hL.free 58
    have f59 := hL.free 59
    have fs := ((((Fr1.refl p wc).set 50 (.int .u64 ((s.next : Int) + 1))).set 57 (.bool false)).set 58 (.int .i64 0)).set 59 (.int .i64 0)
    have LR := Lib.hid (sent_set hL)
    have OR := Lib.hid (own_fr hO fs (fun g hg e => own_ne hO hL.blk (by decide) g hg e))
    have FR := Lib.hid (Fr1.trans (Fr1.of0 hF) fs)
    clear hO hL hF fs F1 F2 F3 F4 O1 O3 O4 c50 HF1 HF2 HE
    go_wp2_with fail
    go_ret2
    exact ⟨_, _, rfl, OR.out, LR.out, FR.out⟩
end Go.Proofs.Ytgcjbbliaelkcaa
set_option linter.unusedSimpArgs false
set_option linter.unusedVariables false
namespace Go.Proofs.Ytgcjbbliaelkcaa
open Go.RowKit

theorem RdB.cap {w : World} {c : Nat} {A : Option Addr} {d : List UInt8} (h : RdB w (.slice A d.length c) d) : RdB w (.slice A d.length d.length) d := by
  obtain ⟨A', c', hv, h1, h2, h3⟩ := h.form
  injection hv with hA _ hc
  subst hA hc
  refine ⟨Rd.len h, ⟨A, d.length, rfl, Nat.le_refl _, by omega, fun hA => by have := h3 hA; omega⟩, fun hn => ?_⟩
  obtain ⟨g, off, c', cur, t, fz, hv, hb, hc⟩ := Rd.cells h hn
  injection hv with hA _ _
  subst hA
  exact ⟨g, off, d.length, cur, t, fz, rfl, hb, hc⟩
/-- 'd[:k:k]', its value under a name. -/
theorem slice_hm {w : World} {A : Option Addr} {c n k : Nat} {d : List UInt8} (h : RdB w (.slice A n c) d) (hn : n = d.length) (hk : k ≤ n) :
    (∀ w', (Instr.slice 32 (.slice A n c) none (some (.int .i64 (k : Int))) (some (.int .i64 (k : Int)))).run Try.prog w' = .ok (.slice A k k) w') ∧ RdB w (.slice A k k) (d.take k) := by
  subst hn
  have hel : (Try.prog).elem 32 = 5 := by simp [Program.elem, Try.underlying32]
  have hsz : ∀ w', (sizeOf 5).run Try.prog w' = .ok 1 w' := fun w' => by kernel_rfl
  have hnc : d.length ≤ c := by obtain ⟨A', c', hv, h1, _⟩ := h.form; injection hv with _ _ hc; omega
  refine ⟨fun w' => ?_, ?_⟩
  · have hb : (Instr.sliceBounds true d.length c none (some (.int .i64 (k : Int))) (some (.int .i64 (k : Int)))).run Try.prog w' = .ok (0, k, k) w' := by
      have h0 : (0 : Int) ≤ (k : Int) := by omega
      have h1 : (k : Int) ≤ (c : Int) := by omega
      simp [Instr.sliceBounds, run_sliceBound, go_sem, *]
    rw [run_slice_any (w := w') 32 A d.length c (by rw [hel]; exact Try.underlying32), hb]
    simp only [Result.andThen_ok, hel, hsz w']
    cases A <;> simp [sliced, Addr.add]
  · have h1 := h.take hk
    have hl : (d.take k).length = k := by rw [List.length_take]; omega
    rw [show RdB w (.slice A k c) (d.take k) = RdB w (.slice A (d.take k).length c) (d.take k) by rw [hl]] at h1
    have h2 := h1.cap
    rwa [hl] at h2
/-- 'd[k:len:len]', its value under a name. -/
theorem slice_lhm {w : World} {A : Option Addr} {c n k : Nat} {d : List UInt8} (h : RdB w (.slice A n c) d) (hn : n = d.length) (hk : k ≤ n) :
    ∃ A', (∀ w', (Instr.slice 32 (.slice A n c) (some (.int .i64 (k : Int))) (some (.int .i64 (n : Int))) (some (.int .i64 (n : Int)))).run Try.prog w' = .ok (.slice A' (n - k) (n - k)) w') ∧ RdB w (.slice A' (n - k) (n - k)) (d.drop k) := by
  subst hn
  have hel : (Try.prog).elem 32 = 5 := by simp [Program.elem, Try.underlying32]
  have hsz : ∀ w', (sizeOf 5).run Try.prog w' = .ok 1 w' := fun w' => by kernel_rfl
  have hnc : d.length ≤ c := by obtain ⟨A', c', hv, h1, _⟩ := h.form; injection hv with _ _ hc; omega
  refine ⟨if d.length = k then A else A.map (·.add k), fun w' => ?_, ?_⟩
  · rw [run_slice_lhm (w := w') 32 A d.length c (by rw [hel]; exact Try.underlying32) .i64 .i64 .i64 (k : Int) (d.length : Int) (d.length : Int) (by omega) (by omega) (by omega) (by omega), hel, hsz w']
    simp [Result.andThen, sliced]
  · exact h.cap.drop hk
set_option maxHeartbeats 1000000 in
theorem parts_bad {b : List UInt8} {v : Value} {w : World} (hb : RdB w v b) (h : b.length < 24 ∨ 1224 < b.length) :
    Calls Try.prog 33 #[v] w fun e w' => e = .returned (.tuple #[.slice none 0 0, .slice none 0 0, .bool false]) ∧ w = w' := by
  obtain ⟨A, c, rfl, -, -, -⟩ := hb.form
  obtain ⟨n, hn⟩ : ∃ n, n = b.length := ⟨_, rfl⟩
  rw [← hn] at h ⊢
  clear hn hb
  by_cases h1 : n < 24
  · have t1 : (n : Int) < 24 := by omega
    clear h h1
    go_enter Try.func33, Try.ntmps33
    go_wp2_with fail
    go_ret3
    exact ⟨rfl, rfl⟩
  · have t1 : (24 : Int) ≤ n := by omega
    have t2 : (1224 : Int) < n := by omega
    clear h h1
    go_enter Try.func33, Try.ntmps33
    go_wp2_with fail
    go_ret3
    exact ⟨rfl, rfl⟩
set_option maxHeartbeats 1000000 in
theorem parts_good {b : List UInt8} {v : Value} {w : World} (hb : RdB w v b) (h : 24 ≤ b.length) (h2 : b.length ≤ 1224) :
    Calls Try.prog 33 #[v] w fun e w' => ∃ v1 v2, e = .returned (.tuple #[v1, v2, .bool true]) ∧ RdB w v1 (b.take (b.length - 16)) ∧ RdB w v2 (b.drop (b.length - 16)) ∧ Fr0 w w' := by
  obtain ⟨A, c, rfl, hc, hm, hno⟩ := hb.form
  obtain ⟨n, hn⟩ : ∃ n, n = b.length := ⟨_, rfl⟩
  rw [← hn] at h h2 hc hb ⊢
  obtain ⟨k, hk⟩ : ∃ k, k = n - 16 := ⟨_, rfl⟩
  rw [← hk]
  obtain ⟨s1, r1⟩ := slice_hm hb hn (k := k) (by omega)
  obtain ⟨A2, s2, r2⟩ := slice_lhm hb hn (k := k) (by omega)
  obtain ⟨m, hm⟩ : ∃ m, m = n - k := ⟨_, rfl⟩
  rw [← hm] at s2 r2
  have R1 := Lib.hid r1
  have R2 := Lib.hid r2
  have t1 : (24 : Int) ≤ n := by omega
  have t2 : (n : Int) ≤ 1224 := by omega
  have t3 : IntKind.i64.wrap ((n : Int) - 16) = (k : Int) := by rw [show (n : Int) - 16 = (k : Int) by omega]; exact IntWalk.i64_in _ (by omega)
  clear hb hn hno r1 r2 hk hm h h2 hc
  go_enter Try.func33, Try.ntmps33
  go_upto_region 4 with (fail)
  go_quiet (fail)
  go_wp2_with fail
  go_ret3
  exact ⟨_, _, rfl, R1.out, R2.out, (Fr0.refl w).drewN _⟩
end Go.Proofs.Ytgcjbbliaelkcaa
set_option linter.unusedSimpArgs false
namespace Go.Proofs.Ytgcjbbliaelkcaa
open Go.RowKit

/-- What is left of bytes that part. -/
def foldX (a b : List UInt8) : Nat → UInt8
  | 0 => 0
  | n + 1 => foldX a b n ||| (a.getD n 0 ^^^ b.getD n 0)
theorem or_zero8 (x y : UInt8) : x ||| y = 0 ↔ x = 0 ∧ y = 0 := by
  constructor
  · intro h
    have h2 : (x ||| y).toNat = 0 := by rw [h]; rfl
    rw [UInt8.toNat_or] at h2
    have := Nat.or_eq_zero_iff.1 h2
    exact ⟨UInt8.toNat_inj.1 this.1, UInt8.toNat_inj.1 this.2⟩
  · rintro ⟨rfl, rfl⟩; rfl
theorem xor_zero8 (x y : UInt8) : x ^^^ y = 0 ↔ x = y := by
  constructor
  · intro h
    have h2 : (x ^^^ y) ^^^ y = 0 ^^^ y := by rw [h]
    rwa [UInt8.xor_assoc, UInt8.xor_self, UInt8.xor_zero, UInt8.zero_xor] at h2
  · rintro rfl; simp
theorem foldX_zero (a b : List UInt8) : ∀ n, foldX a b n = 0 ↔ ∀ i, i < n → a.getD i 0 = b.getD i 0
  | 0 => ⟨fun _ i hi => absurd hi (by omega), fun _ => rfl⟩
  | n + 1 => by
    rw [foldX, or_zero8, foldX_zero a b n, xor_zero8]
    constructor
    · rintro ⟨h1, h2⟩ i hi
      rcases (by omega : i < n ∨ i = n) with h | rfl
      · exact h1 i h
      · exact h2
    · intro h
      exact ⟨fun i hi => h i (by omega), h n (by omega)⟩
theorem fold_same {a b : List UInt8} (h : a.length = b.length) : (foldX a b a.length = 0) ↔ a = b := by
  rw [foldX_zero]
  constructor
  · intro hh
    apply List.ext_getElem h
    intro i h1 h2
    have := hh i h1
    simpa [List.getD, h1, h2] using this
  · rintro rfl i _; rfl
/-- Are both the same? -/
def sameB (a b : List UInt8) : Bool := decide (a = b)
set_option maxHeartbeats 1000000 in
set_option maxRecDepth 10000 in
theorem msame_any {va vb : Value} {a b : List UInt8} {w : World} (ha : RdB w va a) (hb : RdB w vb b) : Calls Try.prog 35 #[va, vb] w fun e w' => e = .returned (.bool (sameB a b)) ∧ Fr0 w w' := by
  obtain ⟨Aa, ca, rfl, ha1, ha2, -⟩ := ha.form
  obtain ⟨Ab, cb, rfl, hb1, hb2, -⟩ := hb.form
  unfold maxLen at ha2 hb2
  have HA := Lib.hid (show RdB w (.slice Aa a.length ca) a from ha)
  have HB := Lib.hid (show RdB w (.slice Ab b.length cb) b from hb)
  by_cases hl : a.length = b.length
  · have HS := Lib.hid (fold_same hl)
    have HSB := Lib.hid (show sameB a b = decide (a = b) from rfl)
    obtain ⟨n, hn⟩ : ∃ n, n = a.length := ⟨_, rfl⟩
    rw [← hl, ← hn] at HB hb1
    rw [← hn] at HA HS ha1
    rw [← hl, ← hn]
    have HN := Lib.hid hn
    have HLB := Lib.hid (hn.trans hl)
    obtain ⟨sb, hsb⟩ : ∃ s, s = sameB a b := ⟨_, rfl⟩
    rw [← hsb] at HSB ⊢
    clear ha hb hl hn hsb
    go_enter Try.func35, Try.ntmps35
    go_wp2_with fail
    go_loopw [5, 14] (fun v5 v14 wr => ∃ k : Nat, k ≤ n ∧ v14 = .int .i64 k ∧ v5 = .int .u8 ((foldX a b k).toNat : Int) ∧ Fr0 w wr) (fun _ v14 _ => n - (intOf v14).toNat)
    case atStart => exact ⟨0, by omega, rfl, rfl, Fr0.refl w⟩
    case round =>
      obtain ⟨k, hk, rfl, rfl, hF⟩ := hrel
      by_cases hlt : k < n
      · have hka : k < a.length := by rw [← HN.out]; exact hlt
        have hkb : k < b.length := by rw [← HLB.out]; exact hlt
        obtain ⟨ga, oa, ca', hva, hca, _, da⟩ := (show RdB w (.slice Aa a.length ca) a from by rw [← HN.out]; exact HA.out).cell hka
        obtain ⟨gb, ob, cb', hvb, hcb, _, db⟩ := (show RdB w (.slice Ab b.length cb) b from by rw [← HLB.out]; exact HB.out).cell hkb
        injection hva with hA1 _ hA2
        injection hvb with hB1 _ hB2
        subst hA1 hB1
        have ea := hF.cell da
        have eb := hF.cell db
        have i0 : (0 : Int) ≤ (k : Int) := by omega
        have i1 : (k : Int) < (n : Int) := by omega
        have HC := Lib.hid (fun (W : World) (h : Fr0 w W) => show W.cell? ⟨ga, oa + k, none⟩ = some (.int .u8 ((a[k]).toNat : Int)) ∧ W.cell? ⟨gb, ob + k, none⟩ = some (.int .u8 ((b[k]).toNat : Int)) from ⟨h.cell da, h.cell db⟩)
        have hx : bits .xor .u8 ((a[k]).toNat : Int) ((b[k]).toNat : Int) = ((a[k] ^^^ b[k]).toNat : Int) := by
          rw [UInt8.toNat_xor]; exact u8_xor_nat _ _ (a[k]).toNat_lt (b[k]).toNat_lt
        have ho : bits .or .u8 ((foldX a b k).toNat : Int) ((a[k] ^^^ b[k]).toNat : Int) = ((foldX a b (k + 1)).toNat : Int) := by
          have e : foldX a b (k + 1) = foldX a b k ||| (a[k] ^^^ b[k]) := by rw [foldX]; simp [List.getD, hka, hkb]
          rw [e, UInt8.toNat_or]; exact u8_or_nat _ _ (foldX a b k).toNat_lt (a[k] ^^^ b[k]).toNat_lt
        obtain ⟨f1, hf1⟩ : ∃ f, f = foldX a b (k + 1) := ⟨_, rfl⟩
        obtain ⟨f0, hf0⟩ : ∃ f, f = foldX a b k := ⟨_, rfl⟩
        obtain ⟨xa, hxa⟩ : ∃ f, f = a[k] := ⟨_, rfl⟩
        obtain ⟨xb, hxb⟩ : ∃ f, f = b[k] := ⟨_, rfl⟩
        rw [← hf1, ← hf0, ← hxa, ← hxb] at ho
        rw [← hxa, ← hxb] at hx HC
        rw [UInt8.toNat_xor] at ho
        rw [← hf0]
        have HF1 := Lib.hid hf1
        have HF := Lib.hid hF
        have HX := Lib.hid hx
        have HO := Lib.hid ho
        clear hA2 hB2 hF da db ea eb hx ho hf1 hf0 hxa hxb hka hkb hca hcb
        go_wp2_with fail
        have hx := HX.out
        have ho := HO.out
        refine wp_region_class (fun W => Fr0 wr W) (by kernel_rfl) (by kernel_rfl) ((Fr0.refl _).drew) ?_
        iterate 12 (refine q_val rfl (fun W hW => by have hc := (HC.out) W (Fr0.trans HF.out hW); go_simp; try rfl) ?_; simp only [Act.put, List.setIfInBounds_toArray, List.set_cons_zero, List.set_cons_succ])
        refine q_nil ?_
        intro w' hC
        clear hx ho
        go_wp2_with fail
        go_roundw
        case measure => simp [intOf]; omega
        case rel => exact ⟨k + 1, by omega, by go_num, by rw [HF1.out], Fr0.trans HF.out hC⟩
      · obtain rfl : k = n := by omega
        have HV := Lib.hid (show ((foldX a b k).toNat = 0) ↔ a = b from by
          rw [← HS.out]
          exact ⟨fun h => UInt8.toNat_inj.1 h, fun h => by rw [h]; rfl⟩)
        obtain ⟨fz, hfz⟩ : ∃ f, f = (foldX a b k).toNat := ⟨_, rfl⟩
        rw [← hfz] at HV ⊢
        by_cases h0 : fz = 0
        · subst h0
          have HB1 := Lib.hid (HSB.out.trans (decide_eq_true ((HV.out).1 rfl)))
          clear hfz
          go_wp2_with fail
          go_ret
          exact ⟨by rw [HB1.out]; rfl, hF⟩
        · have HB1 := Lib.hid (HSB.out.trans (decide_eq_false (fun h => h0 ((HV.out).2 h))))
          have q1 : ((fz : Int) == 0) = false := by simp; omega
          have q2 : (fz == 0) = false := by simpa using h0
          clear hfz h0
          go_wp2_with fail
          go_ret
          exact ⟨by rw [HB1.out]; rfl, hF⟩
  · have hne : sameB a b = false := decide_eq_false (fun h => hl (by rw [h]))
    obtain ⟨na, hna⟩ : ∃ n, n = a.length := ⟨_, rfl⟩
    obtain ⟨nb, hnb⟩ : ∃ n, n = b.length := ⟨_, rfl⟩
    rw [← hna, ← hnb] at hl ⊢
    have q1 : ((na : Int) != (nb : Int)) = true := by simp; omega
    have q2 : (na != nb) = true := by simpa using hl
    have HNE := Lib.hid hne
    rw [hne]
    clear ha hb hna hnb hl hne
    go_enter Try.func35, Try.ntmps35
    go_wp2_with fail
    go_ret
    exact ⟨rfl, Fr0.refl w⟩
end Go.Proofs.Ytgcjbbliaelkcaa
namespace Go.Proofs.Ytgcjbbliaelkcaa
open Go.RowKit

/-- What the step of Fixed finds. -/
def fStep (d : List UInt8) (size : Int) : Nat × Int :=
  if size < 1 ∨ 8 < size ∨ (d.length : Int) < size then (0, 4) else (size.toNat, 0)

set_option maxHeartbeats 400000 in
theorem fixed1_any {p b0 b1 : Nat} {A : Option Addr} {c : Nat} {d : List UInt8} {e : Int} {size : Int} {w : World} (h : RdrV w p A c d e) (_hn : d.length ≤ 100000000) (hm : -9223372036854775808 ≤ size ∧ size ≤ 9223372036854775807)
    (h0 : Blk w b0 #[.int .i64 size] 3) (h1 : Blk w b1 #[.pointer (some ⟨p, 0, none⟩)] 90) :
    Calls Try.prog 53 #[.pointer (some ⟨b0, 0, none⟩), .pointer (some ⟨b1, 0, none⟩)] w fun x w' =>
      x = .returned (.tuple #[.int .i64 ((fStep d size).1 : Nat), .int .i64 (fStep d size).2]) ∧ Fr0 w w' := by
  have c0 : w.cell? ⟨p, 0, none⟩ = some (.slice A d.length c) := h.blk.cell 0 rfl
  have d0 : w.cell? ⟨b0, 0, none⟩ = some (.int .i64 size) := h0.cell 0 rfl
  have d1 : w.cell? ⟨b1, 0, none⟩ = some (.pointer (some ⟨p, 0, none⟩)) := h1.cell 0 rfl
  clear h h0 h1
  by_cases k0 : size < 1
  · have hS := Lib.hid (show fStep d size = (0, 4) by unfold fStep; rw [if_pos (.inl k0)])
    have q0 : decide (size < 1) = true := by simpa using k0
    clear k0
    go_enter Try.func53, Try.ntmps53
    go_wp2_with fail
    go_quiet (fail)
    go_wp2_with fail
    go_ret2
    rw [hS.out]
    exact ⟨rfl, (Fr0.refl w).drewN _⟩
  · have q0 : decide (size < 1) = false := by simpa using k0
    by_cases k1 : 8 < size
    · have hS := Lib.hid (show fStep d size = (0, 4) by unfold fStep; rw [if_pos (.inr (.inl k1))])
      have q1 : decide (8 < size) = true := by simpa using k1
      clear k0 k1
      go_enter Try.func53, Try.ntmps53
      go_wp2_with fail
      go_quiet (fail)
      go_wp2_with fail
      go_ret2
      rw [hS.out]
      exact ⟨rfl, (Fr0.refl w).drewN _⟩
    · have q1 : decide (8 < size) = false := by simpa using k1
      by_cases k2 : (d.length : Int) < size
      · have hS := Lib.hid (show fStep d size = (0, 4) by unfold fStep; rw [if_pos (.inr (.inr k2))])
        have q2 : decide ((d.length : Int) < size) = true := by simpa using k2
        clear k0 k1 k2
        go_enter Try.func53, Try.ntmps53
        go_wp2_with fail
        go_quiet (fail)
        go_wp2_with fail
        go_ret2
        rw [hS.out]
        exact ⟨rfl, (Fr0.refl w).drewN _⟩
      · have hS := Lib.hid (show fStep d size = (size.toNat, 0) by unfold fStep; rw [if_neg (by omega)])
        have q2 : decide ((d.length : Int) < size) = false := by simpa using k2
        have hs := Lib.hid (show 0 ≤ size by omega)
        clear k0 k1 k2
        go_enter Try.func53, Try.ntmps53
        go_wp2_with fail
        go_quiet (fail)
        go_wp2_with fail
        go_ret2
        rw [hS.out]
        have := hs.out
        exact ⟨by simp; omega, (Fr0.refl w).drewN _⟩
end Go.Proofs.Ytgcjbbliaelkcaa
namespace Go.Proofs.Ytgcjbbliaelkcaa
open Go.RowKit

/-- Bytes as a number, the first one highest. -/
def fixVal (l : List UInt8) : Nat := l.foldl (fun n x => n * 256 + x.toNat) 0
theorem fixVal_snoc (l : List UInt8) (x : UInt8) : fixVal (l ++ [x]) = fixVal l * 256 + x.toNat := by simp [fixVal]
theorem fixVal_lt (l : List UInt8) : fixVal l < 256 ^ l.length := by
  have gen : ∀ (l : List UInt8) (a k : Nat), a < 256 ^ k → l.foldl (fun n x => n * 256 + x.toNat) a < 256 ^ (k + l.length) := by
    intro l
    induction l with
    | nil => intro a k h; simpa using h
    | cons x r ih =>
      intro a k h
      have hx := x.toNat_lt
      have := ih (a * 256 + x.toNat) (k + 1) (by rw [Nat.pow_succ]; omega)
      rw [List.foldl_cons, List.length_cons, show k + (r.length + 1) = k + 1 + r.length by omega]
      exact this
  simpa [fixVal] using gen l 0 0 (by simp)
theorem or8 (n m : Nat) (hn : n ≤ 72057594037927935) (hm : m < 256) : bits .or .u64 ((n : Int) * 256) (m : Int) = (n : Int) * 256 + (m : Int) := by
  have h := u64_or_nat (n * 256) m (by omega) (by omega)
  have e : n * 256 ||| m = n * 256 + m := nat_join 8 (n * 256) m (by omega) (by omega)
  rw [e] at h
  have h' : bits .or .u64 ((n * 256 : Nat) : Int) (m : Int) = ((n * 256 + m : Nat) : Int) := h
  rw [show ((n * 256 : Nat) : Int) = (n : Int) * 256 by omega] at h'
  rw [h']
  omega

def rFixed (d : List UInt8) (e : Int) (size : Int) : Nat × List UInt8 × Int :=
  if e ≠ 0 then (0, d, e) else if (fStep d size).2 ≠ 0 then (0, d, 4) else (fixVal (d.take (fStep d size).1), d.drop (fStep d size).1, 0)

theorem fStep_facts (d : List UInt8) (size : Int) : ((fStep d size).2 = 0 → (fStep d size).1 ≤ d.length ∧ (fStep d size).1 ≤ 8) ∧ ((fStep d size).2 ≠ 0 → (fStep d size).2 = 4) := by
  unfold fStep
  split
  · simp
  · simp; omega

theorem fixed1_step {p b0 b1 : Nat} {A : Option Addr} {c : Nat} {d : List UInt8} {size : Int} {w : World} (h : RdrV w p A c d 0) (hn : d.length ≤ 100000000) (hm : -9223372036854775808 ≤ size ∧ size ≤ 9223372036854775807)
    (h0 : Blk w b0 #[.int .i64 size] 3) (h1 : Blk w b1 #[.pointer (some ⟨p, 0, none⟩)] 90) :
    StepFn w p A c d (.func (.func 53) #[] #[.pointer (some ⟨b0, 0, none⟩), .pointer (some ⟨b1, 0, none⟩)]) (fStep d size).1 (fStep d size).2 (fun w' => Fr0 w w') :=
  ⟨⟨_, _, _, rfl, fun args w1 => by kernel_rfl, fixed1_any h hn hm h0 h1⟩, fun w' hf => h.fr0 hf, fun he => ((fStep_facts d size).1 he).1⟩

/-- What take leaves for Fixed. -/
theorem fixed_take {p : Nat} {A : Option Addr} {c : Nat} {d : List UInt8} {size : Int} {w wa : World} {b0 b1 : Nat} (h : RdrV wa p A c d 0) (hn : d.length ≤ 100000000) (hm : -9223372036854775808 ≤ size ∧ size ≤ 9223372036854775807) (hfa : Fr0 w wa)
    (h0 : Blk wa b0 #[.int .i64 size] 3) (h1 : Blk wa b1 #[.pointer (some ⟨p, 0, none⟩)] 90) :
    Calls Try.prog 52 #[.pointer (some ⟨p, 0, none⟩), .func (.func 53) #[] #[.pointer (some ⟨b0, 0, none⟩), .pointer (some ⟨b1, 0, none⟩)]] wa fun x w2 =>
      ∃ Av cv l, x = .returned (.slice Av l.length cv) ∧ RdB w2 (.slice Av l.length cv) l ∧ l.length ≤ 8 ∧ fixVal l = (rFixed d 0 size).1 ∧ Fr1 p w w2 ∧ ∃ A' c', RdrV w2 p A' c' (rFixed d 0 size).2.1 (rFixed d 0 size).2.2 := by
  refine (wtake_any h (fixed1_step h hn hm h0 h1)).mono ?_
  rintro x w2 ⟨w1, v, rfl, hg, hf, k1, k2⟩
  obtain ⟨s1, s2⟩ := fStep_facts d size
  have hfull : Fr1 p w w2 := ((Fr1.of0 (hfa.trans hg)).trans hf)
  by_cases hk : (fStep d size).2 = 0
  · have e2 : rFixed d 0 size = (fixVal (d.take (fStep d size).1), d.drop (fStep d size).1, 0) := by unfold rFixed; rw [if_neg (by simp), if_neg (by simpa using hk)]
    obtain ⟨⟨A', c', h3⟩, rfl, h4, h5⟩ := k2 hk
    obtain ⟨j1, j2⟩ := s1 hk
    have hl : (d.take (fStep d size).1).length = (fStep d size).1 := by rw [List.length_take]; omega
    rw [e2]
    exact ⟨A, c, d.take (fStep d size).1, by rw [hl], by rw [hl]; exact h4, by omega, rfl, hfull, A', c', h3⟩
  · have e1 : rFixed d 0 size = (0, d, 4) := by unfold rFixed; rw [if_neg (by simp), if_pos hk]
    obtain ⟨rfl, h3⟩ := k1 hk
    rw [s2 hk] at h3
    rw [e1]
    exact ⟨none, 0, [], rfl, RdB.nil w2, by simp, rfl, hfull, A, c, h3⟩

set_option maxHeartbeats 400000 in
set_option maxRecDepth 100000 in
theorem rfixed_any {p : Nat} {A : Option Addr} {c : Nat} {d : List UInt8} {e : Int} {size : Int} {w : World} (h : RdrV w p A c d e) (hn : d.length ≤ 100000000) (hm : -9223372036854775808 ≤ size ∧ size ≤ 9223372036854775807) :
    Calls Try.prog 37 #[.pointer (some ⟨p, 0, none⟩), .int .i64 size] w fun x w' => x = .returned (.int .u64 ((rFixed d e size).1 : Nat)) ∧ Fr1 p w w' ∧ ∃ A' c', RdrV w' p A' c' (rFixed d e size).2.1 (rFixed d e size).2.2 := by
  have H := Lib.hid h
  obtain ⟨wa, hwa⟩ : ∃ wa, wa = ((w.alloc (.cells #[.pointer (some ⟨p, 0, none⟩)] 90)).alloc (.cells #[.int .i64 size] 3)) := ⟨_, rfl⟩
  have hfa : Fr0 w wa := by rw [hwa]; exact ((Fr0.refl w).alloc _).alloc _
  have ha := h.fr0 hfa
  have b0 : Blk wa w.heap.size #[.pointer (some ⟨p, 0, none⟩)] 90 := by rw [hwa]; exact (Blk.new _ _ _).alloc _
  have b1 : Blk wa (w.heap.size + 1) #[.int .i64 size] 3 := by
    rw [hwa]; have := (Blk.new (w.alloc (.cells #[.pointer (some ⟨p, 0, none⟩)] 90)) #[.int .i64 size] 3)
    simpa using this
  have hT : Calls Try.prog 52 #[.pointer (some ⟨p, 0, none⟩), .func (.func 53) #[] #[.pointer (some ⟨w.heap.size + 1, 0, none⟩), .pointer (some ⟨w.heap.size, 0, none⟩)]] wa fun x w2 =>
      ∃ Av cv l, x = .returned (.slice Av l.length cv) ∧ RdB w2 (.slice Av l.length cv) l ∧ l.length ≤ 8 ∧ fixVal l = (rFixed d e size).1 ∧ Fr1 p w w2 ∧ ∃ A' c', RdrV w2 p A' c' (rFixed d e size).2.1 (rFixed d e size).2.2 := by
    by_cases he : e = 0
    · subst he; exact fixed_take ha hn hm hfa b1 b0
    · have e1 : rFixed d e size = (0, d, e) := by unfold rFixed; rw [if_pos he]
      refine (take_err ha he _).mono ?_
      rintro x w2 ⟨rfl, rfl⟩
      rw [e1]
      exact ⟨none, 0, [], rfl, RdB.nil _, by simp, rfl, Fr1.of0 hfa, A, c, ha⟩
  have HT := Lib.hid hT
  obtain ⟨R, hR⟩ : ∃ R, R = rFixed d e size := ⟨_, rfl⟩
  rw [← hR] at HT ⊢
  clear hT b0 b1 ha hfa h hR H
  subst hwa
  go_enter Try.func37, Try.ntmps37
  go_wp2_with (go_at_call 52; refine (HT.out).mono ?_; rintro x w2 ⟨Av, cv, l, rfl, hrd, hl8, hfv, hf, hA⟩; have F := Lib.hid hf; have HA := Lib.hid hA; have FV := Lib.hid hfv; clear hf hA hfv)
  go_loopw [5, 12] (fun v5 v12 wr => wr = w2 ∧ ∃ (i n : Nat), v5 = .int .u64 (n : Int) ∧ v12 = .int .i64 (i : Int) ∧ i ≤ l.length ∧ n = fixVal (l.take i)) (fun _ v12 _ => l.length - (intOf v12).toNat)
  case atStart => exact ⟨rfl, 0, 0, rfl, rfl, by omega, by simp [fixVal]⟩
  case round =>
    obtain ⟨rfl, i, n, rfl, rfl, hiW, hr⟩ := hrel
    by_cases hlt : i < l.length
    · obtain ⟨g, off, c', hv, hic, hg, hc⟩ := hrd.cell hlt
      injection hv with hA _ hcc
      subst hA hcc
      have hn7 : n ≤ 72057594037927935 := by
        have := fixVal_lt (l.take i)
        rw [← hr, List.length_take] at this
        have h7 : min i l.length ≤ 7 := by omega
        have := Nat.pow_le_pow_right (show 0 < 256 by omega) h7
        omega
      obtain ⟨x, hx⟩ : ∃ x, x = l[i] := ⟨_, rfl⟩
      have hr2 : n * 256 + x.toNat = fixVal (l.take (i + 1)) := by rw [hr, hx, ← fixVal_snoc]; simp
      rw [← hx] at hc
      obtain ⟨y, hy⟩ : ∃ y, y = x.toNat := ⟨_, rfl⟩
      have hxl : x.toNat < 256 := x.toNat_lt
      rw [← hy] at hxl hc hr2
      have H := Lib.hid hrd
      have Hr := Lib.hid hr2
      have ei : wr.cell? ⟨g, off + i, none⟩ = some (.int .u8 (y : Int)) := hc
      clear hrd hr hr2 hc hx hy
      have eo := or8 n y hn7 hxl
      have es : (n : Int) * 256 % 18446744073709551616 = (n : Int) * 256 := by omega
      have ey : (y : Int) % 18446744073709551616 = (y : Int) := by omega
      have ew : IntKind.u64.wrap ((n : Int) * 256) = (n : Int) * 256 := by show (n : Int) * 256 % 18446744073709551616 = _; omega
      have ew2 : IntKind.u64.wrap (y : Int) = (y : Int) := by show (y : Int) % 18446744073709551616 = _; omega
      go_wp2_with fail
      go_roundw
      case rel => exact ⟨trivial, i + 1, n * 256 + y, by go_num, by go_num, by omega, Hr.out⟩
      case measure => simp [intOf]; omega
    · have e : i = l.length := by omega
      subst e
      rw [List.take_length] at hr
      have Hr := Lib.hid hr
      clear hr
      go_wp2_with fail
      go_ret
      obtain ⟨A', c', h3⟩ := HA.out
      rw [Hr.out, FV.out]
      exact ⟨rfl, F.out, A', c', h3⟩
end Go.Proofs.Ytgcjbbliaelkcaa
namespace Go.Proofs.Ytgcjbbliaelkcaa
open Go.RowKit
theorem sumP1 {W : World} {g : Nat} {v1 : Value} {d1 : List UInt8} (h1 : RdB W v1 d1) (hl : d1.length ≤ 900000) (hb : Blk W g #[v1] 32) : Calls Try.prog 51 #[.slice (some ⟨g, 0, none⟩) 1 1] W fun e w' => e = .returned (.agg (byts (shaN d1)).toArray) ∧ Fr0 W w' := by
  have h := sum_any (w := W) (lv := .slice (some ⟨g, 0, none⟩) 1 1) (ds := [d1]) (vs := [v1])
    ⟨rfl, ⟨_, _, rfl, by simp, by unfold maxLen; simp, fun h => by cases h⟩, fun _ => ⟨g, 0, 1, _, _, _, rfl, hb, fun j u hu => by simpa using hu⟩⟩
    (fun i hi => by
      simp at hi
      subst hi
      exact ⟨v1, rfl, h1⟩)
  have h3 := h (by simpa using hl)
  rw [show ([d1] : List (List UInt8)).flatten = d1 from by simp] at h3
  exact h3
theorem sumP3 {W : World} {g : Nat} {v1 v2 v3 : Value} {d1 d2 d3 : List UInt8} (h1 : RdB W v1 d1) (h2 : RdB W v2 d2) (h3 : RdB W v3 d3) (hl : d1.length + d2.length + d3.length ≤ 900000) (hb : Blk W g #[v1, v2, v3] 32) : Calls Try.prog 51 #[.slice (some ⟨g, 0, none⟩) 3 3] W fun e w' => e = .returned (.agg (byts (shaN (d1 ++ (d2 ++ d3)))).toArray) ∧ Fr0 W w' := by
  have h := sum_any (w := W) (lv := .slice (some ⟨g, 0, none⟩) 3 3) (ds := [d1, d2, d3]) (vs := [v1, v2, v3])
    ⟨rfl, ⟨_, _, rfl, by simp, by unfold maxLen; simp, fun h => by cases h⟩, fun _ => ⟨g, 0, 3, _, _, _, rfl, hb, fun j u hu => by simpa using hu⟩⟩
    (fun i hi => by
      simp at hi
      rcases (by omega : i = 0 ∨ i = 1 ∨ i = 2) with rfl | rfl | rfl
      · exact ⟨v1, rfl, h1⟩
      · exact ⟨v2, rfl, h2⟩
      · exact ⟨v3, rfl, h3⟩)
  have h4 := h (by simp; omega)
  rw [show ([d1, d2, d3] : List (List UInt8)).flatten = d1 ++ (d2 ++ d3) from by simp] at h4
  exact h4
theorem u8_size (w : World) : (sizeOf 5).run Try.prog w = .ok 1 w := by
  obtain ⟨i, hi, _, hz1, _⟩ := info_parts infoB
  simp [sizeOf, typeInfo, hi, hz1]
/-- 'v[:h]', of a slice that has room. -/
theorem part_h (w : World) (A : Option Addr) (n c h : Nat) (hh : h ≤ c) : (Instr.slice 32 (.slice A n c) none (some (.int .i64 (h : Int))) none).run Try.prog w = .ok (.slice A h c) w := by
  have ht := Try.underlying32
  have hel : Try.prog.elem 32 = 5 := by simp [Program.elem, ht]
  rw [run_slice_h (w := w) 32 A n c (by rw [hel]; exact ht) .i64 (h : Int) (by omega) (by omega), hel, u8_size]
  show Result.ok (sliced A 0 (h : Int).toNat c 1) w = _
  unfold sliced
  have hA : A.map (·.add (0 * 1)) = A := by cases A <;> simp [Addr.add]
  rw [hA, ite_self, Int.toNat_natCast, Nat.sub_zero, Nat.sub_zero]
/-- 'v[l:h]', its value under a name. -/
theorem part_lh {w : World} {A : Option Addr} {c l h : Nat} {d : List UInt8} (hr : RdB w (.slice A d.length c) d) (hl : l ≤ h) (hh : h ≤ d.length) :
    ∃ A' n' c', (∀ W, (Instr.slice 32 (.slice A d.length c) (some (.int .i64 (l : Int))) (some (.int .i64 (h : Int))) none).run Try.prog W = .ok (.slice A' n' c') W) ∧ RdB w (.slice A' n' c') ((d.take h).drop l) := by
  have ht := Try.underlying32
  have hel : Try.prog.elem 32 = 5 := by simp [Program.elem, ht]
  have hc : d.length ≤ c := by
    obtain ⟨A', c', hv, hm, _⟩ := hr.form
    injection hv with _ _ hc
    omega
  refine ⟨if c = l then A else A.map (·.add l), h - l, c - l, fun W => ?_, ?_⟩
  · rw [run_slice_lh (w := W) 32 A d.length c (by rw [hel]; exact ht) .i64 .i64 (l : Int) (h : Int) (by omega) (by omega) (by omega), hel, u8_size]
    show Result.ok (sliced A (l : Int).toNat (h : Int).toNat c 1) W = _
    unfold sliced
    rw [Int.toNat_natCast, Int.toNat_natCast, Nat.mul_one]
  · have h1 := RdB.take hr hh
    have hlen : (d.take h).length = h := by rw [List.length_take]; omega
    have h2 := RdB.drop (d := d.take h) (k := l) (by rw [hlen]; exact h1) (by omega)
    rw [hlen] at h2
    exact h2
end Go.Proofs.Ytgcjbbliaelkcaa
set_option linter.unusedSimpArgs false
set_option linter.unusedVariables false
namespace Go.Proofs.Ytgcjbbliaelkcaa
open Go.RowKit

theorem Blk.two_ty {w : World} {b : Nat} {vs vs' : Array Value} {t t' : TypeId} (h : Blk w b vs t) (h' : Blk w b vs' t') : t = t' := by
  have e := (show w.heap[b]? = _ from h).symm.trans h'
  injection e with e
  injection e
/-- The word that bytes begin with. -/
def wdL (hd : List UInt8) : Nat := (rFixed hd 0 8).1
theorem wdL_lt (hd : List UInt8) : wdL hd < 18446744073709551616 := by
  unfold wdL rFixed
  rw [if_neg (by simp)]
  split
  · show 0 < _; decide
  · refine Nat.lt_of_lt_of_le (fixVal_lt _) ?_
    have h : (hd.take (fStep hd 8).1).length ≤ 8 := by
      rename_i h
      have := ((fStep_facts hd 8).1 (by simpa using h)).2
      rw [List.length_take]; omega
    exact Nat.pow_le_pow_right (by decide) h
/-- What Open answers: nonce, text, error. -/
def openP (code mark b : List UInt8) : (Bool × Nat) × List UInt8 × Int :=
  if b.length < 24 ∨ 1224 < b.length then ((false, 0), [], 4)
  else if b.drop (b.length - 16) = tagL mark (b.take (b.length - 16)) then ((ofD (wdL (b.take (b.length - 16))), ofN (wdL (b.take (b.length - 16)))), tnL code (wdL (b.take (b.length - 16))) ((b.take (b.length - 16)).drop 8), 0)
  else ((false, 0), [], 60)
theorem slo_blk {base g n : Nat} {w : World} {d : List UInt8} (h : Blk w g (byts d).toArray 5) (hb : base ≤ g) (hn : d.length = n) (hm : n ≤ 100000) : SlO base w (.slice (some ⟨g, 0, none⟩) n n) d := by
  subst hn
  exact .inr ⟨g, 0, d.length, _, rfl, hb, h, by simp [byts], Nat.le_refl _, by unfold maxLen; omega, fun j u hu => by simpa using hu⟩
theorem open_ret {tmps : Array Value} {W : World} {g : Nat} {cs : Array Value} {u v : Value} (hg : Blk W g cs 41) (hs : cs.size = 2) (h2 : tmps.getD 4 undef = .pointer (some ⟨g, 0, none⟩)) (h3 : tmps.getD 5 undef = u) (h4 : tmps.getD 6 undef = v) :
    (results Try.f13 tmps).run Try.prog W = .ok (.tuple #[.agg cs, u, v]) W := by
  have hr : Try.f13.results = #[.cell 4 41, .tmp 5, .tmp 6] := rfl
  have hl := run_loadVar_row (P := Try.prog) W g 41 41 cs (0, 0) _ hg Try.underlying41 rfl (by rw [hs]; kernel_rfl)
  simp only [results, hr]
  rw [Array.getD_eq_getD_getElem?] at h2 h3 h4
  simp [Sem.run_bind, Result.andThen, h2, h3, h4, asAddr, hl]
set_option maxHeartbeats 4000000 in
set_option maxRecDepth 10000 in
theorem open_bad {code mark b : List UInt8} {v : Value} {w : World} (hb : RdB w v b) (h : b.length < 24 ∨ 1224 < b.length) :
    Calls Try.prog 13 #[.agg (byts (code ++ mark)).toArray, v] w fun e w' => e = .returned (.tuple #[nonceV false 0, .slice none 0 0, .int .i64 4]) ∧ Fr0 w w' := by
  have HP := Lib.hid (fun W (hf : Fr0 w W) => parts_bad (hb.fr0 hf) h)
  obtain ⟨ck, hck⟩ : ∃ c, c = (byts (code ++ mark)).toArray := ⟨_, rfl⟩
  rw [← hck]
  have F0 := Lib.hid (((Fr0.refl w).alloc (.cells ck 25)).alloc (.cells #[.bool false, .int .u64 0] 41))
  have Z0 := Blk.new (w.alloc (.cells ck 25)) #[.bool false, .int .u64 0] 41
  rw [World.size_alloc] at Z0
  have Z := Lib.hid Z0
  clear hck hb h Z0
  go_enter Try.func13, Try.ntmps13
  go_wp2_with (go_at_call 33; refine (HP.out _ F0.out).mono ?_; rintro e w3 ⟨rfl, rfl⟩)
  exact bodyPost_ret (v := .tuple #[nonceV false 0, .slice none 0 0, .int .i64 4]) (open_ret Z.out rfl rfl rfl rfl) rfl ⟨rfl, F0.out⟩
set_option maxHeartbeats 4000000 in
set_option maxRecDepth 10000 in
theorem open_good {code mark b : List UInt8} {v : Value} {w : World} (hc : code.length = 16) (hm : mark.length = 32) (hb : RdB w v b) (h : 24 ≤ b.length) (h2 : b.length ≤ 1224) :
    Calls Try.prog 13 #[.agg (byts (code ++ mark)).toArray, v] w fun e w' => ∃ v2, e = .returned (.tuple #[nonceV (openP code mark b).1.1 (openP code mark b).1.2, v2, .int .i64 (openP code mark b).2.2]) ∧ SlO w.heap.size w' v2 (openP code mark b).2.1 ∧ Fr0 w w' := by
  have HOP := Lib.hid (show openP code mark b = if b.drop (b.length - 16) = tagL mark (b.take (b.length - 16)) then ((ofD (wdL (b.take (b.length - 16))), ofN (wdL (b.take (b.length - 16)))), tnL code (wdL (b.take (b.length - 16))) ((b.take (b.length - 16)).drop 8), 0)
    else ((false, 0), [], 60) by unfold openP; rw [if_neg (by omega)])
  have HP0 := Lib.hid (fun W (hf : Fr0 w W) => parts_good (hb.fr0 hf) h h2)
  obtain ⟨k, hk⟩ : ∃ k, k = b.length - 16 := ⟨_, rfl⟩
  rw [← hk] at HOP HP0
  have hk8 : 8 ≤ k := by omega
  have hkl : (b.take k).length = k := by rw [List.length_take]; omega
  have hdl : (b.drop k).length = 16 := by rw [List.length_drop]; omega
  obtain ⟨hd, hhd⟩ : ∃ t, t = b.take k := ⟨_, rfl⟩
  obtain ⟨tg, htg⟩ : ∃ t, t = b.drop k := ⟨_, rfl⟩
  rw [← hhd] at hkl HOP HP0
  rw [← htg] at hdl HOP HP0
  have HP := Lib.hid (fun W (hf : Fr0 w W) => (HP0.out W hf).mono (R' := fun e w' => ∃ A1 c1 A2 c2, e = .returned (.tuple #[.slice A1 k c1, .slice A2 16 c2, .bool true]) ∧ RdB w' (.slice A1 k c1) hd ∧ RdB w' (.slice A2 16 c2) tg ∧ Fr0 W w') (by
    rintro e w' ⟨v1, v2, rfl, r1, r2, hf⟩
    obtain ⟨A1, c1, rfl, -⟩ := r1.form
    obtain ⟨A2, c2, rfl, -⟩ := r2.form
    have r1' := r1.fr0 hf
    have r2' := r2.fr0 hf
    rw [hkl] at r1' ⊢
    rw [hdl] at r2' ⊢
    exact ⟨A1, c1, A2, c2, rfl, r1', r2', hf⟩))
  have hw := wdL_lt hd
  have HWO := Lib.hid (fun W v (hr : RdB W v hd) => open_any hr (by omega))
  have HMK := Lib.hid (fun W g (h : Blk W g (byts (code ++ mark)).toArray 25) => key_mark hc hm h)
  have HMO := Lib.hid (fun W g gk A c (hk : Blk W gk (byts (code ++ mark)).toArray 25) (ho : RdB W (.slice A k c) hd) (hb : Blk W g #[.slice A k c] 32) => mof_one (HMK.out W gk hk) (by omega) ho (by omega) hb)
  have HM16 := Lib.hid (fun W g (h : Blk W g (byts (macN mark hd)).toArray 23) => show RdB W (.slice (some ⟨g, 0, none⟩) 16 32) (tagL mark hd) from mac16 (macN_len mark hd) h)
  have HMS := Lib.hid (fun W va vb (h1 : RdB W va tg) (h2 : RdB W vb (tagL mark hd)) => msame_any h1 h2)
  have HRF := Lib.hid (fun p A c W (h : RdrV W p A c hd 0) => rfixed_any h (show hd.length ≤ 100000000 by omega) (size := 8) (by omega))
  have HTN := Lib.hid (fun W v (hr : RdB W v (hd.drop 8)) => pturn_any hc hw hr (by rw [List.length_drop]; omega))
  have HOF := Lib.hid (fun W => nof_any (w := W) hw)
  have HSL := Lib.hid (fun W A c (hr : RdB W (.slice A hd.length c) hd) => slice_from (P := Try.prog) (T := 32) Try.underlying32 u8_size hr (show 8 ≤ hd.length by omega) (8 : Int) rfl)
  have HPI := Lib.hid (show (Try.prog.info? 22).map (·.size) = some (byts (((code ++ mark).drop 0).take 16)).length by rw [byts_len, List.drop_zero, List.length_take, List.length_append, hc, hm]; kernel_rfl)
  have HCD := Lib.hid (show ((code ++ mark).drop 0).take 16 = code by rw [List.drop_zero, ← hc, List.take_left])
  have HRUN := Lib.hid (fun W => z32_run W)
  have HIM := Lib.hid (dig_info (macN_len mark hd))
  have HZM := Lib.hid (z32_size (macN_len mark hd))
  have ham := byts_all (macN mark hd)
  have HWD := Lib.hid (show (rFixed hd 0 8).1 = wdL hd from rfl)
  rw [HWD.out] at HRF
  have K0 := Lib.hid ((Blk.new w (byts (code ++ mark)).toArray 25).alloc (.cells #[.bool false, .int .u64 0] 41))
  have F0 := Lib.hid (((Fr0.refl w).alloc (.cells (byts (code ++ mark)).toArray 25)).alloc (.cells #[.bool false, .int .u64 0] 41))
  have Z0 := Blk.new (w.alloc (.cells (byts (code ++ mark)).toArray 25)) #[.bool false, .int .u64 0] 41
  rw [World.size_alloc] at Z0
  replace Z0 := Lib.hid Z0
  rw [hkl] at HSL
  obtain ⟨wd, hwd⟩ : ∃ t, t = wdL hd := ⟨_, rfl⟩
  rw [← hwd] at HRF HTN HOF HOP hw
  obtain ⟨X, hX⟩ : ∃ t, t = hd.drop 8 := ⟨_, rfl⟩
  have HXL := Lib.hid (show X.length = k - 8 by rw [hX, List.length_drop, hkl])
  rw [← hX] at HTN HSL HOP
  rw [HXL.out] at HTN
  obtain ⟨k8, hk8⟩ : ∃ t, t = k - 8 := ⟨_, rfl⟩
  rw [← hk8] at HTN HSL HXL
  obtain ⟨TX, hTX⟩ : ∃ t, t = tnL code wd X := ⟨_, rfl⟩
  have HTL := Lib.hid (show TX.length = k8 by rw [hTX, tnL_len, HXL.out])
  rw [← hTX] at HTN HOP
  obtain ⟨tm, htm⟩ : ∃ t, t = tagL mark hd := ⟨_, rfl⟩
  rw [← htm] at HOP HM16 HMS
  obtain ⟨mc, hmc⟩ : ∃ t, t = (byts (macN mark hd)).toArray := ⟨_, rfl⟩
  rw [← hmc] at HMO HM16 HIM HZM ham
  obtain ⟨z, hz⟩ : ∃ z, z = z32A := ⟨_, rfl⟩
  rw [← hz] at HRUN HZM
  have HK9 := Lib.hid (show k8 ≤ 100000 by omega)
  by_cases he : tg = tm
  · rw [show sameB tg tm = true from decide_eq_true he] at HMS
    rw [if_pos he] at HOP
    rw [HOP.out]
    unfold nonceV at HOF ⊢
    clear hb h h2 hk hkl hdl hhd htg hw hwd hX hk8 hTX htm hmc hz he HP0 hc hm HMK HOP HWD
    go_enter Try.func13, Try.ntmps13
    go_upto_region 8 with (first
      | (have _q := R9; go_at_call 37; refine (HRF.out _ _ _ _ R9.out).mono ?_; rintro e w10 ⟨rfl, hf1, -⟩; have U10 := Lib.hid (Fr0.new U9.out hf1 (Nat.le_trans (U8.out).size P9.out)); clear hf1)
      | (have _q := U8; go_at_call 36; refine (HWO.out _ _ ((HD3.out).fr0 U8.out)).mono ?_; rintro e w9 ⟨p, v', rfl, hbk, hown, hf, hp⟩; obtain ⟨Ar, cr, rfl, -, -, -⟩ := own_form hown; have R9 := Lib.hid (show RdrV w9 p Ar cr hd 0 from ⟨hbk, RdB.of_own hown, TyB.of_own hown⟩); have U9 := Lib.hid (Fr0.trans U8.out hf); have P9 := Lib.hid hp; clear hbk hown hf hp)
      | (have _q := S7; go_at_call 35; refine (HMS.out _ _ _ ((TG3.out).fr0 U7.out) (HM16.out _ _ S7.out)).mono ?_; rintro e w8 ⟨rfl, hf⟩; have U8 := Lib.hid (Fr0.trans U7.out hf); clear hf)
      | (have _q := X6; refine list_store_blk rfl 23 _ _ rfl g10 mc rfl rfl 23 z X6.out HIM.out HZM.out ham ?_; intro w7 hB hF; have S7 := Lib.hid hB; have U7 := Lib.hid (Fr0.new U6.out hF (Nat.le_trans (U5.out).size L6.out)); clear hB hF)
      | (have _q := U5; refine list_alloc_blk rfl 23 rfl z HRUN.out ?_; intro g10 w6 hB hF hl; have X6 := Lib.hid hB; have U6 := Lib.hid (Fr0.trans U5.out hF); have L6 := Lib.hid hl; clear hB hF hl)
      | (go_at_call 34; refine (HMO.out _ _ _ _ _ ((K3.out).fr0 U4.out) ((HD3.out).fr0 U4.out) B4.out).mono ?_; rintro e w5 ⟨rfl, hf⟩; have U5 := Lib.hid (Fr0.trans U4.out hf); clear hf)
      | (have _q := K3; refine list_built_blk rfl 39 32 _ _ rfl #[.slice A1 k c1] (fun W => by go_simp; try rfl) ?_; intro gb w4 hB hF hl; have B4 := Lib.hid hB; have U4 := Lib.hid hF; clear hB hF hl)
      | (go_at_call 33; refine (HP.out _ F0.out).mono ?_; rintro e w3 ⟨A1, c1, A2, c2, rfl, r1, r2, hf⟩; have F3 := Lib.hid (Fr0.trans F0.out hf); have K3 := Lib.hid ((K0.out).fr0 hf); have Z3 := Lib.hid ((Z0.out).fr0 hf); have HD3 := Lib.hid r1; have TG3 := Lib.hid r2; clear r1 r2 hf))
    have FA := Lib.hid (Fr0.drew (Fr0.trans F3.out U10.out))
    have KA := Lib.hid (Blk.drew ((K3.out).fr0 U10.out))
    have ZA := Lib.hid (Blk.drew ((Z3.out).fr0 U10.out))
    have XA := (HD3.out).fr0 (Fr0.drew U10.out)
    obtain ⟨A3, hsl, hrx, -⟩ := HSL.out _ _ _ XA
    have RX := Lib.hid hrx
    clear hrx XA F3 U4 U5 U6 U7 U8 U9 U10 K3 Z3 K0 Z0 HD3 TG3 B4 X6 L6 S7 R9 P9 F0
    rw [← HCD.out] at HTN
    obtain ⟨gk, hgk⟩ : ∃ f, f = w.heap.size := ⟨_, rfl⟩
    rw [← hgk] at KA ZA ⊢
    have HGK := Lib.hid hgk
    clear hgk
    refine wp_region_held_drew (S := (fun W => Blk W gk (byts (code ++ mark)).toArray 25)) (by kernel_rfl) KA.out (fun hHeld => ?_)
    generalize w10.drew = wa at *
    have _hI : True := trivial
    clear _hI
    refine takeH (i := 0) rfl (by kernel_rfl) (by kernel_rfl) (by kernel_rfl) (fun _ _ _ h => h) (v := .int .u64 (wd : Int)) (.inl ⟨rfl, fun W hW => (by go_simp; try rfl)⟩) KA.out ?_
    try simp only [Act.put, List.setIfInBounds_toArray, List.set_cons_zero, List.set_cons_succ]
    have _hI : True := trivial
    clear _hI
    refine takeH (i := 2) rfl (by kernel_rfl) (by kernel_rfl) (by kernel_rfl) (fun _ _ _ h => h) (v := .pointer (some ⟨gk, 0, none⟩)) (.inl ⟨rfl, fun W hW => (by go_simp; try rfl)⟩) KA.out ?_
    try simp only [Act.put, List.setIfInBounds_toArray, List.set_cons_zero, List.set_cons_succ]
    have _hI : True := trivial
    clear _hI
    refine takeH (i := 3) rfl (by kernel_rfl) (by kernel_rfl) (by kernel_rfl) (fun _ _ _ h => h) (yields_load_part rfl 22 _ rfl gk 0 rfl 25 (code ++ mark) 16 (fun W hW => hW) _ Try.underlying22 rfl HPI.out) KA.out ?_
    try simp only [Act.put, List.setIfInBounds_toArray, List.set_cons_zero, List.set_cons_succ]
    have _hI : True := trivial
    clear _hI
    refine takeH (i := 4) rfl (by kernel_rfl) (by kernel_rfl) (by kernel_rfl) (fun _ _ _ h => h) (v := .int .u64 (wd : Int)) (.inl ⟨rfl, fun W hW => (by go_simp; try rfl)⟩) KA.out ?_
    try simp only [Act.put, List.setIfInBounds_toArray, List.set_cons_zero, List.set_cons_succ]
    have _hI : True := trivial
    clear _hI
    refine takeH (i := 5) rfl (by kernel_rfl) (by kernel_rfl) (by kernel_rfl) (fun _ _ _ h => h) (v := .slice A1 k c1) (.inl ⟨rfl, fun W hW => (by go_simp; try rfl)⟩) KA.out ?_
    try simp only [Act.put, List.setIfInBounds_toArray, List.set_cons_zero, List.set_cons_succ]
    have _hI : True := trivial
    clear _hI
    refine takeH (i := 6) rfl (by kernel_rfl) (by kernel_rfl) (by kernel_rfl) (fun _ _ _ h => h) (v := .slice A3 k8 (c1 - 8)) (.inl ⟨rfl, fun W hW => (by go_simp; try rfl)⟩) KA.out ?_
    try simp only [Act.put, List.setIfInBounds_toArray, List.set_cons_zero, List.set_cons_succ]
    have _hI : True := trivial
    clear _hI
    refine wpAnyH_ready (rs := [1]) (by kernel_rfl) (by simp) (consG rfl rfl (fun K hK => ?_) AllReadyH.nil)
    have _hI : True := trivial
    clear _hI
    go_simp
    refine (HOF.out _).mono ?_
    rintro e Wn ⟨rfl, hf⟩
    replace KA := Lib.hid ((KA.out).fr0 hf)
    replace ZA := Lib.hid ((ZA.out).fr0 hf)
    replace FA := Lib.hid (Fr0.trans FA.out hf)
    replace RX := Lib.hid ((RX.out).fr0 hf)
    clear hf
    refine hK.out _ _ KA.out ?_
    clear hK
    try simp only [Act.put, List.setIfInBounds_toArray, List.set_cons_zero, List.set_cons_succ]
    have _hI : True := trivial
    clear _hI
    refine wpAnyH_ready (rs := [7]) (by kernel_rfl) (by simp) (consG rfl rfl (fun K hK => ?_) AllReadyH.nil)
    have _hI : True := trivial
    clear _hI
    go_simp
    refine (HTN.out _ _ RX.out).mono ?_
    rintro e Wn ⟨gt, rfl, hb, hl, hf⟩
    have TB := Lib.hid hb
    have LG := Lib.hid (Nat.le_trans (FA.out).size hl)
    replace KA := Lib.hid ((KA.out).fr0 hf)
    replace ZA := Lib.hid ((ZA.out).fr0 hf)
    replace FA := Lib.hid (Fr0.trans FA.out hf)
    clear hb hl hf
    refine hK.out _ _ KA.out ?_
    clear hK
    try simp only [Act.put, List.setIfInBounds_toArray, List.set_cons_zero, List.set_cons_succ]
    have _hI : True := trivial
    clear _hI
    refine wpAnyH_ready (rs := [8]) (by kernel_rfl) (by simp) (consG rfl rfl (fun K hK => ?_) AllReadyH.nil)
    have _hI : True := trivial
    clear _hI
    refine wp_store_blk 41 _ _ rfl (gk + 1) #[.bool (ofD wd), .int .u64 (ofN wd : Int)] rfl rfl 41 #[.bool false, .int .u64 0] ZA.out (by kernel_rfl) rfl (by simp [Value.oneCell']) ?_
    intro Wn hB hF
    have ZO := Lib.hid ZA.out
    have KL := (ZA.out).lt
    replace KA := Lib.hid ((KA.out).fr1 hF (by omega))
    replace FA := Lib.hid (Fr0.new FA.out hF (by rw [← HGK.out]; exact Nat.le_succ _))
    have ZB := Lib.hid hB
    replace TB := Lib.hid ((TB.out).fr1 hF (fun e => absurd (Blk.two_ty (by have h := TB.out; rw [e] at h; exact h) ZO.out) (by decide)))
    clear hB hF KL
    refine hK.out _ _ KA.out ?_
    clear hK
    try simp only [Act.put, List.setIfInBounds_toArray, List.set_cons_zero, List.set_cons_succ]
    have _hI : True := trivial
    clear _hI
    refine takeH (i := 9) rfl (by kernel_rfl) (by kernel_rfl) (by kernel_rfl) (fun _ _ _ h => h) (v := .slice (some ⟨gt, 0, none⟩) k8 k8) (.inl ⟨rfl, fun W hW => (by go_simp; try rfl)⟩) KA.out ?_
    try simp only [Act.put, List.setIfInBounds_toArray, List.set_cons_zero, List.set_cons_succ]
    have _hI : True := trivial
    clear _hI
    refine takeH (i := 10) rfl (by kernel_rfl) (by kernel_rfl) (by kernel_rfl) (fun _ _ _ h => h) (v := .int .i64 0) (.inl ⟨rfl, fun W hW => (by go_simp; try rfl)⟩) KA.out ?_
    try simp only [Act.put, List.setIfInBounds_toArray, List.set_cons_zero, List.set_cons_succ]
    refine wpAnyH_done (by kernel_rfl) ?_ _
    go_wp2_with fail
    exact bodyPost_ret (v := .tuple #[.agg #[.bool (ofD wd), .int .u64 (ofN wd : Int)], .slice (some ⟨gt, 0, none⟩) k8 k8, .int .i64 0]) (open_ret ZB.out rfl rfl rfl rfl) rfl ⟨_, rfl, slo_blk TB.out LG.out HTL.out HK9.out, FA.out⟩
  · rw [show sameB tg tm = false from decide_eq_false he] at HMS
    rw [if_neg he] at HOP
    rw [HOP.out]
    unfold nonceV at HOF ⊢
    clear hb h h2 hk hkl hdl hhd htg hw hwd hX hk8 hTX htm hmc hz he HP0 hc hm HMK HOP HWD HRF HTN HOF HSL HWO
    go_enter Try.func13, Try.ntmps13
    go_upto_region 6 with (first
      | (have _q := S7; go_at_call 35; refine (HMS.out _ _ _ ((TG3.out).fr0 U7.out) (HM16.out _ _ S7.out)).mono ?_; rintro e w8 ⟨rfl, hf⟩; have U8 := Lib.hid (Fr0.trans U7.out hf); clear hf)
      | (have _q := X6; refine list_store_blk rfl 23 _ _ rfl g10 mc rfl rfl 23 z X6.out HIM.out HZM.out ham ?_; intro w7 hB hF; have S7 := Lib.hid hB; have U7 := Lib.hid (Fr0.new U6.out hF (Nat.le_trans (U5.out).size L6.out)); clear hB hF)
      | (have _q := U5; refine list_alloc_blk rfl 23 rfl z HRUN.out ?_; intro g10 w6 hB hF hl; have X6 := Lib.hid hB; have U6 := Lib.hid (Fr0.trans U5.out hF); have L6 := Lib.hid hl; clear hB hF hl)
      | (go_at_call 34; refine (HMO.out _ _ _ _ _ ((K3.out).fr0 U4.out) ((HD3.out).fr0 U4.out) B4.out).mono ?_; rintro e w5 ⟨rfl, hf⟩; have U5 := Lib.hid (Fr0.trans U4.out hf); clear hf)
      | (have _q := K3; refine list_built_blk rfl 39 32 _ _ rfl #[.slice A1 k c1] (fun W => by go_simp; try rfl) ?_; intro gb w4 hB hF hl; have B4 := Lib.hid hB; have U4 := Lib.hid hF; clear hB hF hl)
      | (go_at_call 33; refine (HP.out _ F0.out).mono ?_; rintro e w3 ⟨A1, c1, A2, c2, rfl, r1, r2, hf⟩; have F3 := Lib.hid (Fr0.trans F0.out hf); have K3 := Lib.hid ((K0.out).fr0 hf); have Z3 := Lib.hid ((Z0.out).fr0 hf); have HD3 := Lib.hid r1; have TG3 := Lib.hid r2; clear r1 r2 hf))
    have ZB := (Z3.out).fr0 U8.out
    have z0 := ZB.cell 0 rfl
    have z1 := ZB.cell 1 rfl
    have y0 := ZB.free 0
    have y1 := ZB.free 1
    have ZR := Lib.hid (show Blk ((w8.setCell ⟨w.heap.size + 1, 0, none⟩ (.bool false)).setCell ⟨w.heap.size + 1, 1, none⟩ (.int .u64 0)) (w.heap.size + 1) #[.bool false, .int .u64 0] 41 from (ZB.set 0 _).set 1 _)
    have FR := Lib.hid (Fr0.new (Fr0.trans F3.out U8.out) (((Fr1.refl (w.heap.size + 1) w8).set 0 (.bool false)).set 1 (.int .u64 0)) (Nat.le_succ _))
    clear ZB
    go_wp2_with fail
    exact bodyPost_ret (v := .tuple #[.agg #[.bool false, .int .u64 0], .slice none 0 0, .int .i64 60]) (open_ret ZR.out rfl rfl rfl rfl) rfl ⟨_, rfl, SlO.nil _ _, FR.out⟩
end Go.Proofs.Ytgcjbbliaelkcaa
namespace Go.Proofs.Ytgcjbbliaelkcaa
open Go.RowKit

theorem and127 (n : Nat) (hn : n < 18446744073709551616) : bits .and .u64 (n : Int) 127 = (n : Int) % 128 := by
  have h := u64_and_nat n 127 hn (by omega)
  have e : n &&& 127 = n % 128 := Nat.and_two_pow_sub_one_eq_mod n 7
  rw [e] at h
  have h' : bits .and .u64 (n : Int) 127 = ((n % 128 : Nat) : Int) := h
  rw [h']
  omega
theorem or128 (m : Nat) (hm : m < 128) : bits .or .u8 (m : Int) 128 = (m : Int) + 128 := by
  have h := u8_or_nat m 128 (by omega) (by omega)
  have e : m ||| 128 = 128 + m := by rw [Nat.or_comm]; exact nat_join 7 128 m (by decide) (by omega)
  rw [e] at h
  have h' : bits .or .u8 (m : Int) 128 = ((128 + m : Nat) : Int) := h
  rw [h']
  omega

theorem num_size (w : World) : (sizeOf 5).run Try.prog w = .ok 1 w := by kernel_rfl
theorem num_rest {w : World} {b : Nat} {pre : List Value} {suf : List UInt8} {t : TypeId} (h : Blk w b (pre ++ byts suf).toArray t) (hl : pre.length + suf.length = 10) (h0 : 0 < suf.length) :
    RdB w (.slice (some ⟨b, 10 - suf.length, none⟩) suf.length suf.length) suf := by
  unfold RdB
  refine ⟨by rw [byts_len, Nat.mul_one], ⟨_, _, rfl, Nat.le_refl _, by unfold maxLen; omega, fun h => by cases h⟩, fun _ => ⟨b, _, _, _, _, _, rfl, h, fun j u hu => ?_⟩⟩
  rw [List.getElem?_toArray, List.getElem?_append_right (by omega), show 10 - suf.length + j - pre.length = j by omega]
  exact hu

end Go.Proofs.Ytgcjbbliaelkcaa
namespace Go.Proofs.Ytgcjbbliaelkcaa
open Go.RowKit

theorem rdNum_lt : ∀ (d : List UInt8) (i n : Nat), (rdNum d i n).2 ≤ d.length + i ∧ (rdNum d i n).1 < 18446744073709551616 := by
  intro d
  induction d with
  | nil => intro i n; simp [rdNum]
  | cons x r ih =>
    intro i n
    have := ih (i + 1) (n * 128 + x.toNat % 128)
    rw [rdNum]
    split
    · simp
    · rename_i h
      split
      · simp; omega
      · simp; omega

theorem and127b (n : Nat) (hn : n < 256) : bits .and .u8 (n : Int) 127 = (n : Int) % 128 := by
  have h := u8_and_nat n 127 hn (by omega)
  have e : n &&& 127 = n % 128 := Nat.and_two_pow_sub_one_eq_mod n 7
  rw [e] at h
  have h' : bits .and .u8 (n : Int) 127 = ((n % 128 : Nat) : Int) := h
  rw [h']
  omega
theorem or7 (n m : Nat) (hn : n ≤ 144115188075855871) (hm : m < 128) : bits .or .u64 ((n : Int) * 128) (m : Int) = (n : Int) * 128 + (m : Int) := by
  have h := u64_or_nat (n * 128) m (by omega) (by omega)
  have e : n * 128 ||| m = n * 128 + m := by
    have := nat_join 7 (n * 128) m (by omega) (by omega)
    exact this
  rw [e] at h
  have h' : bits .or .u64 ((n * 128 : Nat) : Int) (m : Int) = ((n * 128 + m : Nat) : Int) := h
  rw [show ((n * 128 : Nat) : Int) = (n : Int) * 128 by omega] at h'
  rw [h']
  omega

def rd (d : List UInt8) : Nat × Nat := rdNum d 0 0

end Go.Proofs.Ytgcjbbliaelkcaa
namespace Go.Proofs.Ytgcjbbliaelkcaa
open Go.RowKit

/-- What Num answers, what is left, the error. -/
def rNum (d : List UInt8) (e : Int) : Nat × List UInt8 × Int :=
  if e ≠ 0 then (0, d, e) else if (rd d).2 = 0 then (0, d, 4) else ((rd d).1, d.drop (rd d).2, 0)

theorem rd_take {d : List UInt8} (h : (rd d).2 ≠ 0) : rd (d.take (rd d).2) = rd d := by
  obtain ⟨h1, h2, h3⟩ := rd_once (d := d) (n := (rd d).1) (k := (rd d).2) rfl (by omega)
  rw [h3]
  have h4 := rd_form (rd d).1 h2 []
  rw [List.append_nil] at h4
  have hl : (form (rd d).1).length = (rd d).2 := by rw [← h3, List.length_take]; exact Nat.min_eq_left h1
  rw [show rd (form (rd d).1) = rdNum (form (rd d).1) 0 0 from rfl, h4, hl]

end Go.Proofs.Ytgcjbbliaelkcaa
namespace Go.Proofs.Ytgcjbbliaelkcaa
open Go.RowKit

set_option maxHeartbeats 400000 in
theorem rerr_any {p : Nat} {A : Option Addr} {c : Nat} {d : List UInt8} {e : Int} {w : World} (h : RdrV w p A c d e) :
    Calls Try.prog 44 #[.pointer (some ⟨p, 0, none⟩)] w fun x w' => x = .returned (.int .i64 e) ∧ w' = w := by
  have c0 : w.cell? ⟨p, 1, none⟩ = some (.int .i64 e) := h.blk.cell 1 rfl
  clear h
  go_enter Try.func44, Try.ntmps44
  go_wp2_with fail
  go_ret
  exact ⟨rfl, rfl⟩
end Go.Proofs.Ytgcjbbliaelkcaa
namespace Go.Proofs.Ytgcjbbliaelkcaa
open Go.RowKit

def rRest (d : List UInt8) (e : Int) : List UInt8 × List UInt8 × Int := if e ≠ 0 then ([], d, e) else (d, [], 0)

set_option maxHeartbeats 400000 in
theorem rest1_any {p b0 : Nat} {A : Option Addr} {c : Nat} {d : List UInt8} {e : Int} {w : World} (h : RdrV w p A c d e)
    (h0 : Blk w b0 #[.pointer (some ⟨p, 0, none⟩)] 90) :
    Calls Try.prog 57 #[.pointer (some ⟨b0, 0, none⟩)] w fun x w' => x = .returned (.tuple #[.int .i64 (d.length : Nat), .int .i64 0]) ∧ w' = w := by
  have c0 : w.cell? ⟨p, 0, none⟩ = some (.slice A d.length c) := h.blk.cell 0 rfl
  have d0 : w.cell? ⟨b0, 0, none⟩ = some (.pointer (some ⟨p, 0, none⟩)) := h0.cell 0 rfl
  clear h h0
  go_enter Try.func57, Try.ntmps57
  go_wp2_with fail
  go_ret2
  exact ⟨rfl, rfl⟩

set_option maxHeartbeats 400000 in
theorem rrest_any {p : Nat} {A : Option Addr} {c : Nat} {d : List UInt8} {e : Int} {w : World} (h : RdrV w p A c d e) (hn : d.length ≤ 100000000) :
    Calls Try.prog 45 #[.pointer (some ⟨p, 0, none⟩)] w fun x w' => ∃ v, x = .returned v ∧ w'.ownsRow w.heap.size 5 1 v (rRest d e).1.length (byts (rRest d e).1) ∧ Fr1 p w w' ∧ ∃ A' c', RdrV w' p A' c' (rRest d e).2.1 (rRest d e).2.2 := by
  obtain ⟨wa, hwa⟩ : ∃ wa, wa = (w.alloc (.cells #[.pointer (some ⟨p, 0, none⟩)] 90)) := ⟨_, rfl⟩
  have hfa : Fr0 w wa := by rw [hwa]; exact (Fr0.refl w).alloc _
  have ha := h.fr0 hfa
  have b0 : Blk wa w.heap.size #[.pointer (some ⟨p, 0, none⟩)] 90 := by rw [hwa]; exact Blk.new _ _ _
  have hT : Calls Try.prog 52 #[.pointer (some ⟨p, 0, none⟩), .func (.func 57) #[] #[.pointer (some ⟨w.heap.size, 0, none⟩)]] wa fun x w2 =>
      ∃ Av cv, x = .returned (.slice Av (rRest d e).1.length cv) ∧ RdB w2 (.slice Av (rRest d e).1.length cv) (rRest d e).1 ∧ Fr1 p w w2 ∧ ∃ A' c', RdrV w2 p A' c' (rRest d e).2.1 (rRest d e).2.2 := by
    by_cases he : e = 0
    · subst he
      have hs : StepFn wa p A c d (.func (.func 57) #[] #[.pointer (some ⟨w.heap.size, 0, none⟩)]) d.length 0 (fun w' => w' = wa) :=
        ⟨⟨_, _, _, rfl, fun args w1 => by kernel_rfl, rest1_any ha b0⟩, by rintro w' rfl; exact ha, fun _ => Nat.le_refl _⟩
      refine (wtake_any ha hs).mono ?_
      rintro x w2 ⟨w1, v, rfl, rfl, hf, k1, k2⟩
      obtain ⟨⟨A', c', h3⟩, rfl, h4, h5⟩ := k2 rfl
      have e1 : rRest d 0 = (d, [], 0) := by unfold rRest; rw [if_neg (by simp)]
      rw [e1]
      rw [List.take_length] at h4
      rw [List.drop_length] at h3
      exact ⟨A, c, rfl, h4, (Fr1.of0 hfa).trans hf, A', c', h3⟩
    · have e1 : rRest d e = ([], d, e) := by unfold rRest; rw [if_pos he]
      refine (take_err ha he _).mono ?_
      rintro x w2 ⟨rfl, rfl⟩
      rw [e1]
      exact ⟨none, 0, rfl, RdB.nil _, Fr1.of0 hfa, A, c, ha⟩
  have hle : (rRest d e).1.length ≤ d.length := by unfold rRest; split <;> simp
  have HT := Lib.hid hT
  obtain ⟨R, hR⟩ : ∃ R, R = rRest d e := ⟨_, rfl⟩
  rw [← hR] at HT hle ⊢
  clear hT b0 ha hfa h hR
  subst hwa
  go_enter Try.func45, Try.ntmps45
  go_wp2_with (first | (go_at_call 52; refine (HT.out).mono ?_; rintro x w2 ⟨Av, cv, rfl, hrd, hf, hA⟩; have F := Lib.hid hf; have HA := Lib.hid hA; have HC := Lib.hid (bytesClone_any hrd (by omega)); clear hf hA hrd) | (go_at_call 31; refine (HC.out).mono ?_; rintro x w3 ⟨v3, rfl, hown, hf3⟩; obtain ⟨A3, c3, rfl, -, -, -⟩ := own_form hown))
  go_ret
  obtain ⟨A', c', h3⟩ := HA.out
  exact ⟨_, rfl, own_baseW hown (F.out).size, (F.out).then0 hf3, A', c', h3.fr0 hf3⟩

end Go.Proofs.Ytgcjbbliaelkcaa
set_option linter.unusedSimpArgs false
set_option linter.unusedVariables false
namespace Go.Proofs.Ytgcjbbliaelkcaa
open Go.RowKit

def zPk : Array Value := #[.bool false, .int .u64 0, .int .i64 0, .int .i64 0, .slice none 0 0]
/-- What a text that was opened begins with: the stamp, the echo, how the reader stands, the rest. -/
def lkR1 (T : List UInt8) : Nat × List UInt8 × Int := rFixed T 0 2
def lkR2 (T : List UInt8) : Nat × List UInt8 × Int := rFixed (lkR1 T).2.1 (lkR1 T).2.2 2
/-- What stands against a packet that was opened. -/
def lkErr (dn : Bool) (o : (Bool × Nat) × List UInt8 × Int) : Int :=
  if o.2.2 ≠ 0 then o.2.2 else if o.1.1 = dn then 90 else if (lkR2 o.2.1).2.2 ≠ 0 ∨ (lkR1 o.2.1).1 = 65535 then 4 else 0
theorem pk_set {W : World} {g : Nat} {a0 a1 a2 a3 a4 : Value} {t : TypeId} (h : Blk W g #[a0, a1, a2, a3, a4] t) (x0 x1 x2 x3 x4 : Value) :
    Blk (((((W.setCell ⟨g, 0, none⟩ x0).setCell ⟨g, 1, none⟩ x1).setCell ⟨g, 2, none⟩ x2).setCell ⟨g, 3, none⟩ x3).setCell ⟨g, 4, none⟩ x4) g #[x0, x1, x2, x3, x4] t := ((((h.set 0 x0).set 1 x1).set 2 x2).set 3 x3).set 4 x4
theorem pk_fr (W : World) (g : Nat) (x0 x1 x2 x3 x4 : Value) : Fr1 g W (((((W.setCell ⟨g, 0, none⟩ x0).setCell ⟨g, 1, none⟩ x1).setCell ⟨g, 2, none⟩ x2).setCell ⟨g, 3, none⟩ x3).setCell ⟨g, 4, none⟩ x4) :=
  (((((Fr1.refl g W).set 0 x0).set 1 x1).set 2 x2).set 3 x3).set 4 x4
theorem lopen_ret {tmps : Array Value} {W : World} {g : Nat} {cs : Array Value} {u : Value} (hg : Blk W g cs 81) (hs : cs.size = 5) (h2 : tmps.getD 4 undef = .pointer (some ⟨g, 0, none⟩)) (h3 : tmps.getD 5 undef = u) :
    (results Try.f30 tmps).run Try.prog W = .ok (.tuple #[.agg cs, u]) W := by
  rw [results_cell_tmp rfl, h2, h3]
  have hl := run_loadVar_row (P := Try.prog) W g 81 81 cs (0, 0) _ hg Try.underlying81 rfl (by rw [hs]; kernel_rfl)
  simp [asAddr, Result.andThen, hl]
theorem slo_new (W : World) : (Instr.alloc 81 true (.tuple #[])).run Try.prog W = .ok (.pointer (some ⟨W.heap.size, 0, none⟩)) (W.alloc (.cells zPk 81)) := by kernel_rfl
theorem rFixed_two_lt (d : List UInt8) (e : Int) : (rFixed d e 2).1 < 65536 := by
  unfold rFixed
  split
  · show 0 < _; decide
  · split
    · show 0 < _; decide
    · refine Nat.lt_of_lt_of_le (fixVal_lt _) ?_
      have h : (fStep d 2).1 ≤ 2 := by unfold fStep; split <;> simp
      have h2 : (d.take (fStep d 2).1).length ≤ 2 := by rw [List.length_take]; omega
      exact Nat.pow_le_pow_right (by decide) h2
theorem rFixed_len (d : List UInt8) (e size : Int) : (rFixed d e size).2.1.length ≤ d.length := by
  unfold rFixed
  split
  · exact Nat.le_refl _
  · split
    · exact Nat.le_refl _
    · simp
/-- The whole of what open answers. -/
def lopenPost (w : World) (dn : Bool) (o : (Bool × Nat) × List UInt8 × Int) (e : Ending) (w' : World) : Prop :=
  if lkErr dn o ≠ 0 then e = .returned (.tuple #[.agg zPk, .int .i64 (lkErr dn o)]) ∧ Fr0 w w'
  else ∃ A c, e = .returned (.tuple #[.agg #[.bool o.1.1, .int .u64 (o.1.2 : Int), .int .i64 ((lkR1 o.2.1).1 : Int), .int .i64 ((lkR2 o.2.1).1 : Int), .slice A (lkR2 o.2.1).2.1.length c], .int .i64 0]) ∧ w'.ownsRow w.heap.size 5 1 (.slice A (lkR2 o.2.1).2.1.length c) (lkR2 o.2.1).2.1.length (byts (lkR2 o.2.1).2.1) ∧ Fr0 w w'
set_option maxHeartbeats 4000000 in
set_option maxRecDepth 100000 in
theorem lopen_any {p : Nat} {s : Lk} {w : World} {code mark b : List UInt8} {v : Value} (h : LkV w p s) (hkey : s.key = code ++ mark) (hc : code.length = 16) (hmk : mark.length = 32) (hb : RdB w v b) :
    Calls Try.prog 30 #[.pointer (some ⟨p, 0, none⟩), v] w (lopenPost w s.down (openP code mark b)) := by
  obtain ⟨Ab, cb, rfl, -, -, -⟩ := hb.form
  have HO := Lib.hid (fun W (hf : Fr0 w W) => show Calls Try.prog 13 #[.agg (byts s.key).toArray, .slice Ab b.length cb] W (fun e w' => ∃ A c, e = .returned (.tuple #[nonceV (openP code mark b).1.1 (openP code mark b).1.2, .slice A (openP code mark b).2.1.length c, .int .i64 (openP code mark b).2.2]) ∧ SlO W.heap.size w' (.slice A (openP code mark b).2.1.length c) (openP code mark b).2.1 ∧ Fr0 W w') by
    rw [hkey]
    by_cases hbad : b.length < 24 ∨ 1224 < b.length
    · refine (open_bad (hb.fr0 hf) hbad).mono ?_
      rintro e w' ⟨rfl, hf⟩
      rw [show openP code mark b = ((false, 0), [], 4) from if_pos hbad]
      exact ⟨none, 0, rfl, SlO.nil _ _, hf⟩
    · refine (open_good hc hmk (hb.fr0 hf) (by omega) (by omega)).mono ?_
      rintro e w' ⟨v2, rfl, hr, hf⟩
      obtain ⟨A, c, rfl, -, -, -⟩ := hr.form
      exact ⟨A, c, rfl, hr, hf⟩)
  have HTLen := Lib.hid (show (openP code mark b).2.1.length ≤ 2000 by
    unfold openP
    split
    · simp
    · split
      · rw [tnL_len, List.length_drop, List.length_take]; omega
      · simp)
  have HPI := Lib.hid (show (Try.prog.info? 25).map (·.size) = some (byts s.key).length by rw [show (byts s.key).length = 48 by simp [byts, h.len]]; kernel_rfl)
  obtain ⟨o, ho⟩ : ∃ o, o = openP code mark b := ⟨_, rfl⟩
  rw [← ho] at HO HTLen ⊢
  obtain ⟨⟨D, N⟩, T, E⟩ := o
  simp only [] at HO HTLen
  unfold nonceV at HO
  have F0 := Lib.hid ((Fr0.refl w).alloc (.cells zPk 81))
  have L0 := Lib.hid (h.fr0 F0.out)
  have Z0 := Lib.hid (Blk.new w zPk 81)
  have RNG := Lib.hid ((L0.out).keyAt)
  obtain ⟨nb, hnb⟩ : ∃ n, n = b.length := ⟨_, rfl⟩
  rw [← hnb] at HO ⊢
  obtain ⟨nt, hnt⟩ : ∃ n, n = T.length := ⟨_, rfl⟩
  rw [← hnt] at HO
  have HNT := Lib.hid hnt
  have HGP := Lib.hid (show p < w.heap.size from h.lt)
  unfold zPk at F0 L0 Z0 RNG
  clear hnt hnb ho hkey hc hmk hb h
  by_cases hE : E ≠ 0
  · have tE : (E != 0) = true := bne_iff_ne.2 hE
    rw [show lopenPost w s.down ((D, N), T, E) = fun e w' => e = .returned (.tuple #[.agg zPk, .int .i64 E]) ∧ Fr0 w w' from by
      funext e w'; unfold lopenPost; have : lkErr s.down ((D, N), T, E) = E := by unfold lkErr; rw [if_pos hE]
      rw [this, if_pos hE]]
    clear hE
    go_enter Try.func30, Try.ntmps30
    go_wp2_with (first
      | (go_at_call 13; refine (HO.out _ F0.out).mono ?_; rintro e w2 ⟨A2, c2, rfl, -, hf⟩; have ZB := ((Z0.out).fr0 hf).alloc (.cells #[.bool D, .int .u64 (N : Int)] 41); have z0 := ZB.cell 0 rfl; have z1 := ZB.cell 1 rfl; have z2 := ZB.cell 2 rfl; have z3 := ZB.cell 3 rfl; have z4 := ZB.cell 4 rfl; have y0 := ZB.free 0; have y1 := ZB.free 1; have y2 := ZB.free 2; have y3 := ZB.free 3; have y4 := ZB.free 4; have ZR := Lib.hid (pk_set ZB (.bool false) (.int .u64 0) (.int .i64 0) (.int .i64 0) (.slice none 0 0)); have FR := Lib.hid (Fr0.new ((Fr0.trans F0.out hf).alloc (.cells #[.bool D, .int .u64 (N : Int)] 41)) (pk_fr _ w.heap.size (.bool false) (.int .u64 0) (.int .i64 0) (.int .i64 0) (.slice none 0 0)) (Nat.le_refl _)); clear hf ZB)
      | (refine wpList_load_mid rfl 25 _ rfl p 1 rfl (byts s.key) _ (fun j v hv => RNG.out j v hv) Try.underlying25 rfl HPI.out ?_))
    exact bodyPost_ret (v := .tuple #[.agg zPk, .int .i64 E]) (lopen_ret ZR.out rfl rfl rfl) rfl ⟨rfl, FR.out⟩
  obtain rfl : E = 0 := Decidable.not_not.1 hE
  clear hE
  by_cases hD : D = s.down
  · rw [show lopenPost w s.down ((D, N), T, 0) = fun e w' => e = .returned (.tuple #[.agg zPk, .int .i64 90]) ∧ Fr0 w w' from by
      funext e w'; unfold lopenPost; have : lkErr s.down ((D, N), T, 0) = 90 := by unfold lkErr; rw [if_neg (by simp), if_pos hD]
      rw [this, if_pos (by decide)]]
    have tD : (D == s.down) = true := beq_iff_eq.2 hD
    clear hD
    go_enter Try.func30, Try.ntmps30
    go_upto_region 4 with (first
      | (go_at_call 13; refine (HO.out _ F0.out).mono ?_; rintro e w2 ⟨A2, c2, rfl, -, hf⟩; have ZB := Lib.hid (((Z0.out).fr0 hf).alloc (.cells #[.bool D, .int .u64 (N : Int)] 41)); have F2 := Lib.hid ((Fr0.trans F0.out hf).alloc (.cells #[.bool D, .int .u64 (N : Int)] 41)); have L2 := ((L0.out).fr0 hf).fr0 ((Fr0.refl w2).alloc (.cells #[.bool D, .int .u64 (N : Int)] 41)); have n0 := (Blk.new w2 #[.bool D, .int .u64 (N : Int)] 41).cell 0 rfl; have c49 : World.cell? (w2.alloc (.cells #[.bool D, .int .u64 (N : Int)] 41)) ⟨p, 49, none⟩ = some (.bool s.down) := L2.cell 0 rfl; clear hf L2)
      | (refine wpList_load_mid rfl 25 _ rfl p 1 rfl (byts s.key) _ (fun j v hv => RNG.out j v hv) Try.underlying25 rfl HPI.out ?_))
    go_quiet (fail)
    generalize hwd : (World.drewN _ _) = wd at *
    have ZD : Blk wd w.heap.size #[.bool false, .int .u64 0, .int .i64 0, .int .i64 0, .slice none 0 0] 81 := by rw [← hwd]; exact (ZB.out).drewN _
    have FD : Fr0 w wd := by rw [← hwd]; exact (F2.out).drewN _
    clear hwd
    have z0 := ZD.cell 0 rfl
    have z1 := ZD.cell 1 rfl
    have z2 := ZD.cell 2 rfl
    have z3 := ZD.cell 3 rfl
    have z4 := ZD.cell 4 rfl
    have y0 := ZD.free 0
    have y1 := ZD.free 1
    have y2 := ZD.free 2
    have y3 := ZD.free 3
    have y4 := ZD.free 4
    have ZR := Lib.hid (pk_set ZD (.bool false) (.int .u64 0) (.int .i64 0) (.int .i64 0) (.slice none 0 0))
    have FR := Lib.hid (Fr0.new FD (pk_fr _ w.heap.size (.bool false) (.int .u64 0) (.int .i64 0) (.int .i64 0) (.slice none 0 0)) (Nat.le_refl _))
    clear ZD FD ZB F2
    go_wp2_with fail
    exact bodyPost_ret (v := .tuple #[.agg zPk, .int .i64 90]) (lopen_ret ZR.out rfl rfl rfl) rfl ⟨rfl, FR.out⟩
  have tD : (D == s.down) = false := beq_eq_false_iff_ne.2 hD
  obtain ⟨⟨a, d1, e1⟩, hr1⟩ : ∃ r, r = lkR1 T := ⟨_, rfl⟩
  have ha : a < 65536 := by have := rFixed_two_lt T 0; unfold lkR1 at hr1; rw [← hr1] at this; exact this
  have hl1 : d1.length ≤ T.length := by have := rFixed_len T 0 2; unfold lkR1 at hr1; rw [← hr1] at this; exact this
  obtain ⟨⟨a2, d2, e2⟩, hr2⟩ : ∃ r, r = lkR2 T := ⟨_, rfl⟩
  have hr2' : (a2, d2, e2) = rFixed d1 e1 2 := by rw [hr2]; unfold lkR2; rw [← hr1]
  have ha2 : a2 < 65536 := by have := rFixed_two_lt d1 e1; rw [← hr2'] at this; exact this
  have hl2 : d2.length ≤ d1.length := by have := rFixed_len d1 e1 2; rw [← hr2'] at this; exact this
  have HWO := Lib.hid (fun W A c (hr : RdB W (.slice A nt c) T) => open_any hr (by have := HTLen.out; omega))
  have HF1 := Lib.hid (fun W q A c (hr : RdrV W q A c T 0) => show Calls Try.prog 37 #[.pointer (some ⟨q, 0, none⟩), .int .i64 2] W (fun x w' => x = .returned (.int .u64 (a : Int)) ∧ Fr1 q W w' ∧ ∃ A' c', RdrV w' q A' c' d1 e1) by
    have hh := rfixed_any hr (by have := HTLen.out; omega) (size := 2) (by omega)
    unfold lkR1 at hr1
    rw [← hr1] at hh
    exact hh)
  have HF2 := Lib.hid (fun W q A c (hr : RdrV W q A c d1 e1) => show Calls Try.prog 37 #[.pointer (some ⟨q, 0, none⟩), .int .i64 2] W (fun x w' => x = .returned (.int .u64 (a2 : Int)) ∧ Fr1 q W w' ∧ ∃ A' c', RdrV w' q A' c' d2 e2) by
    have hh := rfixed_any hr (by have := HTLen.out; omega) (size := 2) (by omega)
    rw [← hr2'] at hh
    exact hh)
  have HRR := Lib.hid (fun W q A c (hr : RdrV W q A c d2 e2) => rrest_any hr (by have := HTLen.out; omega))
  have HER := Lib.hid (fun W q A c (hr : RdrV W q A c d2 e2) => rerr_any hr)
  have HPOST := Lib.hid (show lopenPost w s.down ((D, N), T, 0) = fun e w' => if e2 ≠ 0 ∨ a = 65535 then e = .returned (.tuple #[.agg zPk, .int .i64 4]) ∧ Fr0 w w'
      else ∃ A c, e = .returned (.tuple #[.agg #[.bool D, .int .u64 (N : Int), .int .i64 (a : Int), .int .i64 (a2 : Int), .slice A d2.length c], .int .i64 0]) ∧ w'.ownsRow w.heap.size 5 1 (.slice A d2.length c) d2.length (byts d2) ∧ Fr0 w w' from by
    funext e w'
    unfold lopenPost
    have hle : lkErr s.down ((D, N), T, 0) = if e2 ≠ 0 ∨ a = 65535 then 4 else 0 := by
      unfold lkErr
      rw [if_neg (by simp), if_neg hD]
      simp only []
      rw [← hr1, ← hr2]
    simp only []
    rw [hle, ← hr1, ← hr2]
    by_cases hq : e2 ≠ 0 ∨ a = 65535
    · rw [if_pos hq, if_pos hq, if_pos (by decide)]
    · rw [if_neg hq, if_neg hq, if_neg (by decide)])
  rw [HPOST.out]
  have q1 : IntKind.i64.wrap (a : Int) = (a : Int) := IntWalk.i64_in _ (by omega)
  have q2 : IntKind.i64.wrap (a2 : Int) = (a2 : Int) := IntWalk.i64_in _ (by omega)
  have HRUN := Lib.hid (fun W => slo_new W)
  unfold zPk at HRUN
  have HA := Lib.hid ha
  clear hD hr1 hr2 hr2' ha ha2 hl1 hl2 HPOST
  go_enter Try.func30, Try.ntmps30
  go_upto_region 4 with (first
    | (go_at_call 13; refine (HO.out _ F0.out).mono ?_; rintro e w2 ⟨A2, c2, rfl, hT, hf⟩; have ZB := Lib.hid (((Z0.out).fr0 hf).alloc (.cells #[.bool D, .int .u64 (N : Int)] 41)); have TB := Lib.hid ((hT.rd).fr0 ((Fr0.refl w2).alloc (.cells #[.bool D, .int .u64 (N : Int)] 41))); have F2 := Lib.hid ((Fr0.trans F0.out hf).alloc (.cells #[.bool D, .int .u64 (N : Int)] 41)); have L2 := Lib.hid (((L0.out).fr0 hf).fr0 ((Fr0.refl w2).alloc (.cells #[.bool D, .int .u64 (N : Int)] 41))); have NB := Lib.hid (Blk.new w2 #[.bool D, .int .u64 (N : Int)] 41); have HG2 := Lib.hid (show w.heap.size < w2.heap.size from ((Z0.out).fr0 hf).lt); have n0 := (NB.out).cell 0 rfl; have c49 : World.cell? (w2.alloc (.cells #[.bool D, .int .u64 (N : Int)] 41)) ⟨p, 49, none⟩ = some (.bool s.down) := (L2.out).cell 0 rfl; clear hf hT)
    | (refine wpList_load_mid rfl 25 _ rfl p 1 rfl (byts s.key) _ (fun j v hv => RNG.out j v hv) Try.underlying25 rfl HPI.out ?_))
  go_quiet (fail)
  generalize hwd : (World.drewN _ _) = wd at *
  have ZD := Lib.hid (show Blk wd w.heap.size #[.bool false, .int .u64 0, .int .i64 0, .int .i64 0, .slice none 0 0] 81 by rw [← hwd]; exact (ZB.out).drewN _)
  have FD := Lib.hid (show Fr0 w wd by rw [← hwd]; exact (F2.out).drewN _)
  have ND := Lib.hid (show Blk wd w2.heap.size #[.bool D, .int .u64 (N : Int)] 41 by rw [← hwd]; exact (NB.out).drewN _)
  have TD := Lib.hid (show RdB wd (.slice A2 nt c2) T by rw [← hwd]; exact (TB.out).fr0 ((Fr0.refl _).drewN _))
  obtain ⟨gn, hgn⟩ : ∃ g, g = w2.heap.size := ⟨_, rfl⟩
  rw [← hgn] at ND HG2 ⊢
  clear hwd hgn ZB F2 NB TB L2 c49 n0 Z0 L0 F0 RNG
  go_upto_region 7 with (go_at_call 36; refine (HWO.out _ _ _ TD.out).mono ?_; rintro e w9 ⟨q, v', rfl, hbk, hown, hf, hp⟩; obtain ⟨Ar, cr, rfl, -, -, -⟩ := own_form hown; have RD := Lib.hid (show RdrV w9 q Ar cr T 0 from ⟨hbk, RdB.of_own hown, TyB.of_own hown⟩); have F9 := Lib.hid (Fr0.trans FD.out hf); have Z9 := Lib.hid ((ZD.out).fr0 hf); have N9 := Lib.hid ((ND.out).fr0 hf); have GQ := Lib.hid (show gn < q from Nat.lt_of_lt_of_le (ND.out).lt hp); clear hbk hown hf hp)
  obtain ⟨gp, hgp⟩ : ∃ g, g = w.heap.size := ⟨_, rfl⟩
  rw [← hgp] at Z9 HG2 HGP ⊢
  have HGPW := Lib.hid hgp
  clear hgp ZD ND TD FD
  go_cut [10] (fun s10 wx => ∃ g10 A c, s10 = .pointer (some ⟨g10, 0, none⟩) ∧ Blk wx g10 #[.bool D, .int .u64 (N : Int), .int .i64 (a : Int), .int .i64 (a2 : Int), .slice none 0 0] 81 ∧ Blk wx gp #[.bool false, .int .u64 0, .int .i64 0, .int .i64 0, .slice none 0 0] 81 ∧ gp < g10 ∧ RdrV wx q A c d2 e2 ∧ Fr0 w wx)
  case first =>
    have FA := Lib.hid (Fr0.drew F9.out)
    have ZA := Lib.hid (Blk.drew Z9.out)
    have NA := Lib.hid (Blk.drew N9.out)
    have RA := Lib.hid ((RD.out).fr0 ((Fr0.refl w9).drew))
    clear F9 Z9 N9 RD HWO HO
    refine wp_region_held_drew (S := (fun W => Blk W gn #[.bool D, .int .u64 (N : Int)] 41)) (by kernel_rfl) NA.out (fun hHeld => ?_)
    generalize w9.drew = wa at *
    have _hI : True := trivial
    clear _hI
    refine takeH (i := 0) rfl (by kernel_rfl) (by kernel_rfl) (by kernel_rfl) (fun _ _ _ h => h) (yields_load_blk rfl 41 _ rfl gn rfl 41 #[.bool D, .int .u64 (N : Int)] (fun W hW => hW) _ Try.underlying41 rfl (by kernel_rfl)) NA.out ?_
    try simp only [Act.put, List.setIfInBounds_toArray, List.set_cons_zero, List.set_cons_succ]
    have _hI : True := trivial
    clear _hI
    refine takeH (i := 1) rfl (by kernel_rfl) (by kernel_rfl) (by kernel_rfl) (fun _ _ _ h => h) (v := .pointer (some ⟨q, 0, none⟩)) (.inl ⟨rfl, fun W hW => (by go_simp; try rfl)⟩) NA.out ?_
    try simp only [Act.put, List.setIfInBounds_toArray, List.set_cons_zero, List.set_cons_succ]
    have _hI : True := trivial
    clear _hI
    refine takeH (i := 4) rfl (by kernel_rfl) (by kernel_rfl) (by kernel_rfl) (fun _ _ _ h => h) (v := .pointer (some ⟨q, 0, none⟩)) (.inl ⟨rfl, fun W hW => (by go_simp; try rfl)⟩) NA.out ?_
    try simp only [Act.put, List.setIfInBounds_toArray, List.set_cons_zero, List.set_cons_succ]
    have _hI : True := trivial
    clear _hI
    refine wpAnyH_ready (rs := [2, 8]) (by kernel_rfl) (by simp) (consG rfl rfl (fun K hK => ?_) (consG rfl rfl (fun K hK => ?_) AllReadyH.nil))
    ·
      have _hI : True := trivial
      clear _hI
      go_simp
      refine (HF1.out _ _ _ _ RA.out).mono ?_
      rintro e Wn ⟨rfl, hf, A', c', hr⟩
      have GN := (RA.out).blk.lt
      replace NA := Lib.hid ((NA.out).fr1 hf (by have := GQ.out; omega))
      replace ZA := Lib.hid ((ZA.out).fr1 hf (by have := GQ.out; have := HG2.out; omega))
      replace FA := Lib.hid (Fr0.new FA.out hf (by have := HGPW.out; have := GQ.out; have := HG2.out; omega))
      replace RA := Lib.hid hr
      clear hf hr GN
      refine hK.out _ _ NA.out ?_
      clear hK
      try simp only [Act.put, List.setIfInBounds_toArray, List.set_cons_zero, List.set_cons_succ]
      have _hI : True := trivial
      clear _hI
      refine takeH (i := 3) rfl (by kernel_rfl) (by kernel_rfl) (by kernel_rfl) (fun _ _ _ h => h) (v := .int .i64 (a : Int)) (.inl ⟨rfl, fun W hW => (by go_simp; try rfl)⟩) NA.out ?_
      try simp only [Act.put, List.setIfInBounds_toArray, List.set_cons_zero, List.set_cons_succ]
      have _hI : True := trivial
      clear _hI
      refine wpAnyH_ready (rs := [5, 8]) (by kernel_rfl) (by simp) (consG rfl rfl (fun K hK => ?_) (consG rfl rfl (fun K hK => ?_) AllReadyH.nil))
      ·
        have _hI : True := trivial
        clear _hI
        go_simp
        refine (HF2.out _ _ _ _ RA.out).mono ?_
        rintro e Wn ⟨rfl, hf, A', c', hr⟩
        have GN := (RA.out).blk.lt
        replace NA := Lib.hid ((NA.out).fr1 hf (by have := GQ.out; omega))
        replace ZA := Lib.hid ((ZA.out).fr1 hf (by have := GQ.out; have := HG2.out; omega))
        replace FA := Lib.hid (Fr0.new FA.out hf (by have := HGPW.out; have := GQ.out; have := HG2.out; omega))
        replace RA := Lib.hid hr
        clear hf hr GN
        refine hK.out _ _ NA.out ?_
        clear hK
        try simp only [Act.put, List.setIfInBounds_toArray, List.set_cons_zero, List.set_cons_succ]
        have _hI : True := trivial
        clear _hI
        refine takeH (i := 6) rfl (by kernel_rfl) (by kernel_rfl) (by kernel_rfl) (fun _ _ _ h => h) (v := .int .i64 (a2 : Int)) (.inl ⟨rfl, fun W hW => (by go_simp; try rfl)⟩) NA.out ?_
        try simp only [Act.put, List.setIfInBounds_toArray, List.set_cons_zero, List.set_cons_succ]
        have _hI : True := trivial
        clear _hI
        refine takeH (i := 7) rfl (by kernel_rfl) (by kernel_rfl) (by kernel_rfl) (fun _ _ _ h => h) (v := .agg #[.bool D, .int .u64 (N : Int), .int .i64 (a : Int), .int .i64 (a2 : Int), .slice none 0 0]) (.inl ⟨rfl, fun W hW => (by go_simp; try rfl)⟩) NA.out ?_
        try simp only [Act.put, List.setIfInBounds_toArray, List.set_cons_zero, List.set_cons_succ]
        have _hI : True := trivial
        clear _hI
        refine wpAnyH_ready (rs := [8]) (by kernel_rfl) (by simp) (consG rfl rfl (fun K hK => ?_) AllReadyH.nil)
        have _hI : True := trivial
        clear _hI
        have LR := (RA.out).blk.lt
        refine wp_alloc_blk 81 rfl #[.bool false, .int .u64 0, .int .i64 0, .int .i64 0, .slice none 0 0] HRUN.out ?_
        intro ga Wn hB hf hl
        replace NA := Lib.hid ((NA.out).fr0 hf)
        replace ZA := Lib.hid ((ZA.out).fr0 hf)
        replace FA := Lib.hid (Fr0.trans FA.out hf)
        replace RA := Lib.hid ((RA.out).fr0 hf)
        have KA := Lib.hid hB
        have LK := Lib.hid (show q < ga from Nat.lt_of_lt_of_le LR hl)
        clear hB hf hl LR
        refine hK.out _ _ NA.out ?_
        clear hK
        try simp only [Act.put, List.setIfInBounds_toArray, List.set_cons_zero, List.set_cons_succ]
        have _hI : True := trivial
        clear _hI
        refine wpAnyH_ready (rs := [9]) (by kernel_rfl) (by simp) (consG rfl rfl (fun K hK => ?_) AllReadyH.nil)
        have _hI : True := trivial
        clear _hI
        refine wp_store_blk 81 _ _ rfl ga #[.bool D, .int .u64 (N : Int), .int .i64 (a : Int), .int .i64 (a2 : Int), .slice none 0 0] rfl rfl 81 #[.bool false, .int .u64 0, .int .i64 0, .int .i64 0, .slice none 0 0] KA.out (by kernel_rfl) rfl (by simp [Value.oneCell']) ?_
        intro Wn hB hF
        have KO := KA.out
        have NL := (NA.out).lt
        replace NA := Lib.hid ((NA.out).fr1 hF (by have := LK.out; have := GQ.out; omega))
        replace ZA := Lib.hid ((ZA.out).fr1 hF (by have := LK.out; have := GQ.out; have := HG2.out; omega))
        replace FA := Lib.hid (Fr0.new FA.out hF (by have := LK.out; have := GQ.out; have := HG2.out; have := HGPW.out; omega))
        replace RA := Lib.hid ((RA.out).frT KO (by decide) (by decide) hF)
        replace KA := Lib.hid hB
        clear hB hF KO NL
        refine hK.out _ _ NA.out ?_
        clear hK
        try simp only [Act.put, List.setIfInBounds_toArray, List.set_cons_zero, List.set_cons_succ]
        refine wpAnyH_done (by kernel_rfl) ?_ _
        go_wp2_with fail
        go_meet
        exact ⟨ga, _, _, rfl, KA.out, ZA.out, by have := LK.out; have := GQ.out; have := HG2.out; omega, RA.out, FA.out⟩
      ·
        have _hI : True := trivial
        clear _hI
        have LR := (RA.out).blk.lt
        refine wp_alloc_blk 81 rfl #[.bool false, .int .u64 0, .int .i64 0, .int .i64 0, .slice none 0 0] HRUN.out ?_
        intro ga Wn hB hf hl
        replace NA := Lib.hid ((NA.out).fr0 hf)
        replace ZA := Lib.hid ((ZA.out).fr0 hf)
        replace FA := Lib.hid (Fr0.trans FA.out hf)
        replace RA := Lib.hid ((RA.out).fr0 hf)
        have KA := Lib.hid hB
        have LK := Lib.hid (show q < ga from Nat.lt_of_lt_of_le LR hl)
        clear hB hf hl LR
        refine hK.out _ _ NA.out ?_
        clear hK
        try simp only [Act.put, List.setIfInBounds_toArray, List.set_cons_zero, List.set_cons_succ]
        have _hI : True := trivial
        clear _hI
        refine wpAnyH_ready (rs := [5]) (by kernel_rfl) (by simp) (consG rfl rfl (fun K hK => ?_) AllReadyH.nil)
        have _hI : True := trivial
        clear _hI
        go_simp
        refine (HF2.out _ _ _ _ RA.out).mono ?_
        rintro e Wn ⟨rfl, hf, A', c', hr⟩
        have GN := (RA.out).blk.lt
        replace NA := Lib.hid ((NA.out).fr1 hf (by have := GQ.out; omega))
        replace ZA := Lib.hid ((ZA.out).fr1 hf (by have := GQ.out; have := HG2.out; omega))
        replace FA := Lib.hid (Fr0.new FA.out hf (by have := HGPW.out; have := GQ.out; have := HG2.out; omega))
        replace RA := Lib.hid hr
        replace KA := Lib.hid ((KA.out).fr1 hf (by have := LK.out; omega))
        clear hf hr GN
        refine hK.out _ _ NA.out ?_
        clear hK
        try simp only [Act.put, List.setIfInBounds_toArray, List.set_cons_zero, List.set_cons_succ]
        have _hI : True := trivial
        clear _hI
        refine takeH (i := 6) rfl (by kernel_rfl) (by kernel_rfl) (by kernel_rfl) (fun _ _ _ h => h) (v := .int .i64 (a2 : Int)) (.inl ⟨rfl, fun W hW => (by go_simp; try rfl)⟩) NA.out ?_
        try simp only [Act.put, List.setIfInBounds_toArray, List.set_cons_zero, List.set_cons_succ]
        have _hI : True := trivial
        clear _hI
        refine takeH (i := 7) rfl (by kernel_rfl) (by kernel_rfl) (by kernel_rfl) (fun _ _ _ h => h) (v := .agg #[.bool D, .int .u64 (N : Int), .int .i64 (a : Int), .int .i64 (a2 : Int), .slice none 0 0]) (.inl ⟨rfl, fun W hW => (by go_simp; try rfl)⟩) NA.out ?_
        try simp only [Act.put, List.setIfInBounds_toArray, List.set_cons_zero, List.set_cons_succ]
        have _hI : True := trivial
        clear _hI
        refine wpAnyH_ready (rs := [9]) (by kernel_rfl) (by simp) (consG rfl rfl (fun K hK => ?_) AllReadyH.nil)
        have _hI : True := trivial
        clear _hI
        refine wp_store_blk 81 _ _ rfl ga #[.bool D, .int .u64 (N : Int), .int .i64 (a : Int), .int .i64 (a2 : Int), .slice none 0 0] rfl rfl 81 #[.bool false, .int .u64 0, .int .i64 0, .int .i64 0, .slice none 0 0] KA.out (by kernel_rfl) rfl (by simp [Value.oneCell']) ?_
        intro Wn hB hF
        have KO := KA.out
        have NL := (NA.out).lt
        replace NA := Lib.hid ((NA.out).fr1 hF (by have := LK.out; have := GQ.out; omega))
        replace ZA := Lib.hid ((ZA.out).fr1 hF (by have := LK.out; have := GQ.out; have := HG2.out; omega))
        replace FA := Lib.hid (Fr0.new FA.out hF (by have := LK.out; have := GQ.out; have := HG2.out; have := HGPW.out; omega))
        replace RA := Lib.hid ((RA.out).frT KO (by decide) (by decide) hF)
        replace KA := Lib.hid hB
        clear hB hF KO NL
        refine hK.out _ _ NA.out ?_
        clear hK
        try simp only [Act.put, List.setIfInBounds_toArray, List.set_cons_zero, List.set_cons_succ]
        refine wpAnyH_done (by kernel_rfl) ?_ _
        go_wp2_with fail
        go_meet
        exact ⟨ga, _, _, rfl, KA.out, ZA.out, by have := LK.out; have := GQ.out; have := HG2.out; omega, RA.out, FA.out⟩
    ·
      have _hI : True := trivial
      clear _hI
      have LR := (RA.out).blk.lt
      refine wp_alloc_blk 81 rfl #[.bool false, .int .u64 0, .int .i64 0, .int .i64 0, .slice none 0 0] HRUN.out ?_
      intro ga Wn hB hf hl
      replace NA := Lib.hid ((NA.out).fr0 hf)
      replace ZA := Lib.hid ((ZA.out).fr0 hf)
      replace FA := Lib.hid (Fr0.trans FA.out hf)
      replace RA := Lib.hid ((RA.out).fr0 hf)
      have KA := Lib.hid hB
      have LK := Lib.hid (show q < ga from Nat.lt_of_lt_of_le LR hl)
      clear hB hf hl LR
      refine hK.out _ _ NA.out ?_
      clear hK
      try simp only [Act.put, List.setIfInBounds_toArray, List.set_cons_zero, List.set_cons_succ]
      have _hI : True := trivial
      clear _hI
      refine wpAnyH_ready (rs := [2]) (by kernel_rfl) (by simp) (consG rfl rfl (fun K hK => ?_) AllReadyH.nil)
      have _hI : True := trivial
      clear _hI
      go_simp
      refine (HF1.out _ _ _ _ RA.out).mono ?_
      rintro e Wn ⟨rfl, hf, A', c', hr⟩
      have GN := (RA.out).blk.lt
      replace NA := Lib.hid ((NA.out).fr1 hf (by have := GQ.out; omega))
      replace ZA := Lib.hid ((ZA.out).fr1 hf (by have := GQ.out; have := HG2.out; omega))
      replace FA := Lib.hid (Fr0.new FA.out hf (by have := HGPW.out; have := GQ.out; have := HG2.out; omega))
      replace RA := Lib.hid hr
      replace KA := Lib.hid ((KA.out).fr1 hf (by have := LK.out; omega))
      clear hf hr GN
      refine hK.out _ _ NA.out ?_
      clear hK
      try simp only [Act.put, List.setIfInBounds_toArray, List.set_cons_zero, List.set_cons_succ]
      have _hI : True := trivial
      clear _hI
      refine takeH (i := 3) rfl (by kernel_rfl) (by kernel_rfl) (by kernel_rfl) (fun _ _ _ h => h) (v := .int .i64 (a : Int)) (.inl ⟨rfl, fun W hW => (by go_simp; try rfl)⟩) NA.out ?_
      try simp only [Act.put, List.setIfInBounds_toArray, List.set_cons_zero, List.set_cons_succ]
      have _hI : True := trivial
      clear _hI
      refine wpAnyH_ready (rs := [5]) (by kernel_rfl) (by simp) (consG rfl rfl (fun K hK => ?_) AllReadyH.nil)
      have _hI : True := trivial
      clear _hI
      go_simp
      refine (HF2.out _ _ _ _ RA.out).mono ?_
      rintro e Wn ⟨rfl, hf, A', c', hr⟩
      have GN := (RA.out).blk.lt
      replace NA := Lib.hid ((NA.out).fr1 hf (by have := GQ.out; omega))
      replace ZA := Lib.hid ((ZA.out).fr1 hf (by have := GQ.out; have := HG2.out; omega))
      replace FA := Lib.hid (Fr0.new FA.out hf (by have := HGPW.out; have := GQ.out; have := HG2.out; omega))
      replace RA := Lib.hid hr
      replace KA := Lib.hid ((KA.out).fr1 hf (by have := LK.out; omega))
      clear hf hr GN
      refine hK.out _ _ NA.out ?_
      clear hK
      try simp only [Act.put, List.setIfInBounds_toArray, List.set_cons_zero, List.set_cons_succ]
      have _hI : True := trivial
      clear _hI
      refine takeH (i := 6) rfl (by kernel_rfl) (by kernel_rfl) (by kernel_rfl) (fun _ _ _ h => h) (v := .int .i64 (a2 : Int)) (.inl ⟨rfl, fun W hW => (by go_simp; try rfl)⟩) NA.out ?_
      try simp only [Act.put, List.setIfInBounds_toArray, List.set_cons_zero, List.set_cons_succ]
      have _hI : True := trivial
      clear _hI
      refine takeH (i := 7) rfl (by kernel_rfl) (by kernel_rfl) (by kernel_rfl) (fun _ _ _ h => h) (v := .agg #[.bool D, .int .u64 (N : Int), .int .i64 (a : Int), .int .i64 (a2 : Int), .slice none 0 0]) (.inl ⟨rfl, fun W hW => (by go_simp; try rfl)⟩) NA.out ?_
      try simp only [Act.put, List.setIfInBounds_toArray, List.set_cons_zero, List.set_cons_succ]
      have _hI : True := trivial
      clear _hI
      refine wpAnyH_ready (rs := [9]) (by kernel_rfl) (by simp) (consG rfl rfl (fun K hK => ?_) AllReadyH.nil)
      have _hI : True := trivial
      clear _hI
      refine wp_store_blk 81 _ _ rfl ga #[.bool D, .int .u64 (N : Int), .int .i64 (a : Int), .int .i64 (a2 : Int), .slice none 0 0] rfl rfl 81 #[.bool false, .int .u64 0, .int .i64 0, .int .i64 0, .slice none 0 0] KA.out (by kernel_rfl) rfl (by simp [Value.oneCell']) ?_
      intro Wn hB hF
      have KO := KA.out
      have NL := (NA.out).lt
      replace NA := Lib.hid ((NA.out).fr1 hF (by have := LK.out; have := GQ.out; omega))
      replace ZA := Lib.hid ((ZA.out).fr1 hF (by have := LK.out; have := GQ.out; have := HG2.out; omega))
      replace FA := Lib.hid (Fr0.new FA.out hF (by have := LK.out; have := GQ.out; have := HG2.out; have := HGPW.out; omega))
      replace RA := Lib.hid ((RA.out).frT KO (by decide) (by decide) hF)
      replace KA := Lib.hid hB
      clear hB hF KO NL
      refine hK.out _ _ NA.out ?_
      clear hK
      try simp only [Act.put, List.setIfInBounds_toArray, List.set_cons_zero, List.set_cons_succ]
      refine wpAnyH_done (by kernel_rfl) ?_ _
      go_wp2_with fail
      go_meet
      exact ⟨ga, _, _, rfl, KA.out, ZA.out, by have := LK.out; have := GQ.out; have := HG2.out; omega, RA.out, FA.out⟩
  case rest =>
    obtain ⟨g10, A, c, rfl, hK, hZ, hlt, hR, hF⟩ := hcut
    have K := Lib.hid hK
    have Z := Lib.hid hZ
    have R := Lib.hid hR
    have F := Lib.hid hF
    have LT := Lib.hid hlt
    have k2 := hK.cell 2 rfl
    clear hK hZ hR hF hlt F9 Z9 N9 RD HWO HO HF1 HF2
    by_cases he : e2 ≠ 0 ∨ a = 65535
    · have ZB := Z.out
      have z0 := ZB.cell 0 rfl
      have z1 := ZB.cell 1 rfl
      have z2 := ZB.cell 2 rfl
      have z3 := ZB.cell 3 rfl
      have z4 := ZB.cell 4 rfl
      have y0 := ZB.free 0
      have y1 := ZB.free 1
      have y2 := ZB.free 2
      have y3 := ZB.free 3
      have y4 := ZB.free 4
      have ZR := Lib.hid (pk_set ZB (.bool false) (.int .u64 0) (.int .i64 0) (.int .i64 0) (.slice none 0 0))
      have FR := Lib.hid (Fr0.new F.out (pk_fr wc gp (.bool false) (.int .u64 0) (.int .i64 0) (.int .i64 0) (.slice none 0 0)) (Nat.le_of_eq HGPW.out.symm))
      by_cases hx : e2 = 0
      · have ha := he.resolve_left (fun h => h hx)
        have te : (e2 != 0) = false := by rw [hx]; rfl
        have ta : ((a : Int) == 65535) = true := beq_iff_eq.2 (by omega)
        have HPX := Lib.hid he
        clear he hx ha ZB
        go_wp2_with (go_at_call 44; refine (HER.out _ _ _ _ R.out).mono ?_; rintro e w' ⟨rfl, rfl⟩)
        exact bodyPost_ret (v := .tuple #[.agg zPk, .int .i64 4]) (lopen_ret ZR.out rfl rfl rfl) rfl (by first | (rw [if_pos HPX.out]; exact ⟨rfl, FR.out⟩) | exact ⟨rfl, FR.out⟩)
      · have te : (e2 != 0) = true := bne_iff_ne.2 hx
        have HPX := Lib.hid he
        clear he hx ZB
        go_wp2_with (go_at_call 44; refine (HER.out _ _ _ _ R.out).mono ?_; rintro e w' ⟨rfl, rfl⟩)
        exact bodyPost_ret (v := .tuple #[.agg zPk, .int .i64 4]) (lopen_ret ZR.out rfl rfl rfl) rfl (by first | (rw [if_pos HPX.out]; exact ⟨rfl, FR.out⟩) | exact ⟨rfl, FR.out⟩)
    · have hx : e2 = 0 := by
        by_cases hx : e2 = 0
        · exact hx
        · exact absurd (.inl hx) he
      have ha : ¬ a = 65535 := fun h => he (.inr h)
      have te : (e2 != 0) = false := by rw [hx]; rfl
      have ta : ((a : Int) == 65535) = false := beq_eq_false_iff_ne.2 (by omega)
      have HPX := Lib.hid he
      have HRX := Lib.hid (fun W q A c (hr : RdrV W q A c d2 e2) => show Calls Try.prog 45 #[.pointer (some ⟨q, 0, none⟩)] W (fun x w' => ∃ A c, x = .returned (.slice A d2.length c) ∧ w'.ownsRow W.heap.size 5 1 (.slice A d2.length c) d2.length (byts d2) ∧ Fr1 q W w') from (HRR.out W q A c hr).mono (by
        rintro x w' ⟨v, rfl, ho, hf, -⟩
        rw [show (rRest d2 e2).1 = d2 from by unfold rRest; rw [if_neg (by simpa using hx)]] at ho
        obtain ⟨A, c, rfl, -, -, -⟩ := own_form ho
        exact ⟨A, c, rfl, ho, hf⟩))
      obtain ⟨nd, hnd⟩ : ∃ n, n = d2.length := ⟨_, rfl⟩
      rw [← hnd] at HRX
      have HND := Lib.hid hnd
      clear he hx ha hnd
      go_wp2_with (first
        | (go_at_call 44; refine (HER.out _ _ _ _ R.out).mono ?_; rintro e w' ⟨rfl, rfl⟩)
        | (go_at_call 45; refine (HRX.out _ _ _ _ R.out).mono ?_; rintro e w5 ⟨A5, c5, rfl, ho, hf⟩; have K5 := (K.out).fr1 hf (fun e => absurd (Blk.two_ty (by have h := K.out; rw [e] at h; exact h) (R.out).blk) (by decide)); have Z5 := (Z.out).fr1 hf (fun e => absurd (Blk.two_ty (by have h := Z.out; rw [e] at h; exact h) (R.out).blk) (by decide)); have F5 := Fr0.new F.out hf (by have := LT.out; have := HGPW.out; have := GQ.out; have := HG2.out; omega); have k4 := K5.cell 4 rfl; have x4 := K5.free 4; have K6 := K5.set 4 (.slice A5 nd c5); have Z6 := Z5.fr1 ((Fr1.refl g10 w5).set 4 (.slice A5 nd c5)) (by have := LT.out; omega); have F6 := Fr0.new F5 ((Fr1.refl g10 w5).set 4 (.slice A5 nd c5)) (by have := LT.out; have := HGPW.out; omega); have k0 := K6.cell 0 rfl; have k1 := K6.cell 1 rfl; have k2' := K6.cell 2 rfl; have k3 := K6.cell 3 rfl; have k4' := K6.cell 4 rfl; have z0 := Z6.cell 0 rfl; have z1 := Z6.cell 1 rfl; have z2 := Z6.cell 2 rfl; have z3 := Z6.cell 3 rfl; have z4 := Z6.cell 4 rfl; have y0 := Z6.free 0; have y1 := Z6.free 1; have y2 := Z6.free 2; have y3 := Z6.free 3; have y4 := Z6.free 4; have OB := Lib.hid (own_fr (own_fr ho ((Fr1.refl g10 w5).set 4 (.slice A5 nd c5)) (fun g hg e => own_ne ho K5 (by decide) g hg e)) (pk_fr _ gp (.bool D) (.int .u64 (N : Int)) (.int .i64 (a : Int)) (.int .i64 (a2 : Int)) (.slice A5 nd c5)) (fun g hg e => own_ne (own_fr ho ((Fr1.refl g10 w5).set 4 (.slice A5 nd c5)) (fun g hg e => own_ne ho K5 (by decide) g hg e)) Z6 (by decide) g hg e)); have ZR := Lib.hid (pk_set Z6 (.bool D) (.int .u64 (N : Int)) (.int .i64 (a : Int)) (.int .i64 (a2 : Int)) (.slice A5 nd c5)); have FR := Lib.hid (Fr0.new F6 (pk_fr _ gp (.bool D) (.int .u64 (N : Int)) (.int .i64 (a : Int)) (.int .i64 (a2 : Int)) (.slice A5 nd c5)) (Nat.le_of_eq HGPW.out.symm)); clear hf ho K5 Z5 F5 K6 Z6 F6))
      exact bodyPost_ret (v := .tuple #[.agg #[.bool D, .int .u64 (N : Int), .int .i64 (a : Int), .int .i64 (a2 : Int), .slice A5 nd c5], .int .i64 0]) (lopen_ret ZR.out rfl rfl rfl) rfl (by first | (rw [if_neg HPX.out, ← HND.out]; exact ⟨A5, c5, rfl, own_baseW OB.out (F.out).size, FR.out⟩) | (rw [← HND.out]; exact ⟨A5, c5, rfl, own_baseW OB.out (F.out).size, FR.out⟩))
end Go.Proofs.Ytgcjbbliaelkcaa
set_option linter.unusedSimpArgs false
set_option linter.unusedVariables false
namespace Go.Proofs.Ytgcjbbliaelkcaa
open Go.RowKit

/-- May a meter be? -/
def mayM (a b c : Int) : Prop := (a = 0 → b = 0 ∧ c = 0) ∧ 0 ≤ a ∧ a ≤ 1073741824 ∧ 0 ≤ b ∧ b ≤ 480007 ∧ 0 ≤ c ∧ c ≤ 480007
theorem in_yes {x t : Int} (h : 0 ≤ x ∧ x ≤ t) (w : World) : Calls Try.prog 58 #[.int .i64 x, .int .i64 t] w fun e w' => e = .returned (.bool true) ∧ w = w' := by
  have t1 : decide ((0 : Int) ≤ x) = true := decide_eq_true h.1
  have t2 : decide (x ≤ t) = true := decide_eq_true h.2
  clear h
  go_enter Try.func58, Try.ntmps58
  go_wp2_with fail
  go_ret
  exact ⟨rfl, rfl⟩
theorem meter_eql (a b c : Int) (W : World) : (binOp .eql 49 (.agg #[.int .i64 a, .int .i64 b, .int .i64 c]) (.agg #[.int .i64 0, .int .i64 0, .int .i64 0])).run Try.prog W = .ok (.bool (decide (a = 0 ∧ b = 0 ∧ c = 0))) W := by
  go_simp
  by_cases h1 : a = 0 <;> by_cases h2 : b = 0 <;> by_cases h3 : c = 0 <;> simp [h1, h2, h3]
set_option maxHeartbeats 1000000 in
theorem may_yes {a b c : Int} (h : mayM a b c) (w : World) : Calls Try.prog 46 #[.agg #[.int .i64 a, .int .i64 b, .int .i64 c]] w fun e w' => e = .returned (.bool true) ∧ Fr0 w w' := by
  obtain ⟨h0, h1, h2, h3, h4, h5, h6⟩ := h
  have b0 := Blk.new w #[.int .i64 a, .int .i64 b, .int .i64 c] 49
  have c0 := b0.cell 0 rfl
  have c1 := b0.cell 1 rfl
  have c2 := b0.cell 2 rfl
  have F := Lib.hid ((Fr0.refl w).alloc (.cells #[.int .i64 a, .int .i64 b, .int .i64 c] 49))
  by_cases ha : a = 0
  · obtain ⟨rfl, rfl⟩ := h0 ha
    subst ha
    clear h1 h2 h3 h4 h5 h6 b0 h0
    go_enter Try.func46, Try.ntmps46
    go_wp2_with fail
    go_ret
    exact ⟨rfl, F.out⟩
  · have t1 : (a == 0) = false := beq_eq_false_iff_ne.2 ha
    have I1 := Lib.hid (fun W => in_yes (x := a) (t := 1073741824) ⟨h1, h2⟩ W)
    have I2 := Lib.hid (fun W => in_yes (x := b) (t := 480007) ⟨h3, h4⟩ W)
    have I3 := Lib.hid (fun W => in_yes (x := c) (t := 480007) ⟨h5, h6⟩ W)
    clear h1 h2 h3 h4 h5 h6 b0 h0
    go_enter Try.func46, Try.ntmps46
    go_wp2_with (first
      | (go_at_call 58; with_reducible refine (I1.out _).mono ?_; rintro e w' ⟨rfl, rfl⟩)
      | (go_at_call 58; with_reducible refine (I2.out _).mono ?_; rintro e w' ⟨rfl, rfl⟩)
      | (go_at_call 58; with_reducible refine (I3.out _).mono ?_; rintro e w' ⟨rfl, rfl⟩))
    go_ret
    exact ⟨rfl, F.out⟩
/-- A meter behind a sample. -/
def metOne (a b c s : Int) : Int × Int × Int := if a = 0 then (1, 8 * s, 2 * s) else (min (a + 1) 1073741824, b + (s - b / 8), min (c - c / 4 + max (s - b / 8) (-(s - b / 8))) 480007)
theorem metOne_may {a b c s : Int} (h : mayM a b c) (hs : 0 ≤ s ∧ s ≤ 60000) : mayM (metOne a b c s).1 (metOne a b c s).2.1 (metOne a b c s).2.2 := by
  obtain ⟨h0, h1, h2, h3, h4, h5, h6⟩ := h
  unfold metOne mayM
  split
  · refine ⟨fun h => by simp at h, ?_, ?_, ?_, ?_, ?_, ?_⟩ <;> simp only [] <;> omega
  · refine ⟨fun h => ?_, ?_, ?_, ?_, ?_, ?_, ?_⟩ <;> simp only [] at * <;> omega
theorem rmeter_ret {tmps : Array Value} {W : World} {g : Nat} {cs : Array Value} {u : Value} (hg : Blk W g cs 49) (hs : cs.size = 3) (h2 : tmps.getD 4 undef = .pointer (some ⟨g, 0, none⟩)) (h3 : tmps.getD 5 undef = u) :
    (results Try.f32 tmps).run Try.prog W = .ok (.tuple #[.agg cs, u]) W := by
  rw [results_cell_tmp rfl, h2, h3]
  have hl := run_loadVar_row (P := Try.prog) W g 49 49 cs (0, 0) _ hg Try.underlying49 rfl (by rw [hs]; kernel_rfl)
  simp [asAddr, Result.andThen, hl]
set_option maxHeartbeats 2000000 in
set_option maxRecDepth 100000 in
theorem rhear_any {a b c s : Int} {g : Nat} {w : World} (h : mayM a b c) (hs : 0 ≤ s ∧ s ≤ 60000) (hb : Blk w g #[.int .i64 s] 3) :
    Calls Try.prog 32 #[.agg #[.int .i64 a, .int .i64 b, .int .i64 c], .slice (some ⟨g, 0, none⟩) 1 1] w fun e w' => e = .returned (.tuple #[.agg #[.int .i64 (metOne a b c s).1, .int .i64 (metOne a b c s).2.1, .int .i64 (metOne a b c s).2.2], .int .i64 0]) ∧ Fr0 w w' := by
  have HM := Lib.hid (fun W => may_yes h W)
  obtain ⟨h0, h1, h2, h3, h4, h5, h6⟩ := h
  have B0 := Lib.hid ((Blk.new w #[.int .i64 a, .int .i64 b, .int .i64 c] 49).alloc (.cells #[.int .i64 0, .int .i64 0, .int .i64 0] 49))
  have Z := Blk.new (w.alloc (.cells #[.int .i64 a, .int .i64 b, .int .i64 c] 49)) #[.int .i64 0, .int .i64 0, .int .i64 0] 49
  rw [World.size_alloc] at Z
  have Z0 := Lib.hid Z
  have F0 := Lib.hid (((Fr0.refl w).alloc (.cells #[.int .i64 a, .int .i64 b, .int .i64 c] 49)).alloc (.cells #[.int .i64 0, .int .i64 0, .int .i64 0] 49))
  have c0 := (B0.out).cell 0 rfl
  have c1 := (B0.out).cell 1 rfl
  have c2 := (B0.out).cell 2 rfl
  have HB := Lib.hid hb
  obtain ⟨m, hm⟩ : ∃ m, m = metOne a b c s := ⟨_, rfl⟩
  rw [← hm]
  have HMM := Lib.hid hm
  obtain ⟨m0, m1, m2⟩ := m
  simp only []
  clear Z hb hm
  go_enter Try.func32, Try.ntmps32
  go_upto_region 4 with (go_at_call 46; refine (HM.out _).mono ?_; rintro e w3 ⟨rfl, hf⟩; have F3 := Lib.hid (Fr0.trans F0.out hf); have B3 := Lib.hid ((B0.out).fr0 hf); have Z3 := Lib.hid ((Z0.out).fr0 hf); clear hf)
  obtain ⟨gb, hgb⟩ : ∃ x, x = w.heap.size := ⟨_, rfl⟩
  rw [← hgb] at B3 Z3 ⊢
  have HG := Lib.hid hgb
  clear hgb c0 c1 c2 B0 Z0
  go_loopw [15] (fun v15 wr => (v15 = .int .i64 0 ∧ Blk wr gb #[.int .i64 a, .int .i64 b, .int .i64 c] 49 ∧ Blk wr (gb + 1) #[.int .i64 0, .int .i64 0, .int .i64 0] 49 ∧ Fr0 w wr) ∨ (v15 = .int .i64 1 ∧ Blk wr gb #[.int .i64 m0, .int .i64 m1, .int .i64 m2] 49 ∧ Blk wr (gb + 1) #[.int .i64 0, .int .i64 0, .int .i64 0] 49 ∧ Fr0 w wr)) (fun v15 _ => 1 - (intOf v15).toNat)
  case atStart => exact .inl ⟨rfl, B3.out, Z3.out, F3.out⟩
  case round =>
    clear B3 Z3 F3
    rcases hrel with ⟨rfl, hB, hZ, hF⟩ | ⟨rfl, hB, hZ, hF⟩
    · have B := Lib.hid hB
      have Z := Lib.hid hZ
      have F := Lib.hid hF
      have d0 := ((HB.out).fr0 hF).cell 0 rfl
      have c0 := hB.cell 0 rfl
      have c1 := hB.cell 1 rfl
      have c2 := hB.cell 2 rfl
      have f0 := hB.free 0
      have f1 := hB.free 1
      have f2 := hB.free 2
      have s0 : decide (s < 0) = false := decide_eq_false (by omega)
      have s1 : decide ((60000 : Int) < s) = false := decide_eq_false (by omega)
      have t1 : b.tdiv 8 = b / 8 := Int.tdiv_eq_ediv_of_nonneg (by omega)
      have t2 : IntKind.i64.wrap (b / 8) = b / 8 := IntWalk.i64_in _ (by omega)
      have t3 : IntKind.i64.wrap (s - b / 8) = s - b / 8 := IntWalk.i64_in _ (by omega)
      clear hB hZ hF
      by_cases ha : a = 0
      · have ta : (a == 0) = true := beq_iff_eq.2 ha
        have t4 : IntKind.i64.wrap (8 * s) = 8 * s := IntWalk.i64_in _ (by omega)
        have t5 : IntKind.i64.wrap (2 * s) = 2 * s := IntWalk.i64_in _ (by omega)
        have hm := HMM.out
        rw [metOne, if_pos ha] at hm
        injection hm with e1 e2
        injection e2 with e2 e3
        subst e1 e2 e3
        obtain rfl := ha
        clear h0 h1 h2 h3 h4 h5 h6 hs HM
        go_wp2_with fail
        have f := (((Fr1.refl gb wr).set 1 (.int .i64 (8 * s))).set 2 (.int .i64 (2 * s))).set 0 (.int .i64 1)
        exact ⟨.inr ⟨rfl, (((B.out).set 1 _).set 2 _).set 0 _, (Z.out).fr1 f (Nat.succ_ne_self gb), Fr0.new F.out f (Nat.le_of_eq HG.out.symm)⟩, by decide⟩
      · have ta : (a == 0) = false := beq_eq_false_iff_ne.2 ha
        have u1 : IntKind.i64.wrap (b + (s - b / 8)) = b + (s - b / 8) := IntWalk.i64_in _ (by omega)
        have u2 : c.tdiv 4 = c / 4 := Int.tdiv_eq_ediv_of_nonneg (by omega)
        have u3 : IntKind.i64.wrap (c / 4) = c / 4 := IntWalk.i64_in _ (by omega)
        have u4 : IntKind.i64.wrap (c - c / 4) = c - c / 4 := IntWalk.i64_in _ (by omega)
        have u5 : IntKind.i64.wrap (-(s - b / 8)) = -(s - b / 8) := IntWalk.i64_in _ (by omega)
        have u6 : IntKind.i64.wrap (a + 1) = a + 1 := IntWalk.i64_in _ (by omega)
        have hm := HMM.out
        rw [metOne, if_neg ha] at hm
        injection hm with e1 e2
        injection e2 with e2 e3
        obtain ⟨mx, hmx⟩ : ∃ x, x = max (s - b / 8) (-(s - b / 8)) := ⟨_, rfl⟩
        rw [← hmx] at e3
        have v1 : (if s - b / 8 < -(s - b / 8) then -(s - b / 8) else s - b / 8) = mx := by rw [hmx]; split <;> omega
        have u7 : IntKind.i64.wrap (c - c / 4 + mx) = c - c / 4 + mx := IntWalk.i64_in _ (by omega)
        have v2 : (if 480007 < c - c / 4 + mx then 480007 else c - c / 4 + mx) = m2 := by rw [e3]; split <;> omega
        have v3 : (if 1073741824 < a + 1 then 1073741824 else a + 1) = m0 := by rw [e1]; split <;> omega
        subst e2
        clear h0 h1 h2 h3 h4 h5 h6 hs HM hmx e1 e3 HMM
        go_wp2_with fail
        have f := (((Fr1.refl gb wr).set 1 (.int .i64 (b + (s - b / 8)))).set 2 (.int .i64 m2)).set 0 (.int .i64 m0)
        exact ⟨.inr ⟨rfl, (((B.out).set 1 _).set 2 _).set 0 _, (Z.out).fr1 f (Nat.succ_ne_self gb), Fr0.new F.out f (Nat.le_of_eq HG.out.symm)⟩, by decide⟩
    · have B := Lib.hid hB
      have F := Lib.hid hF
      have c0 := hB.cell 0 rfl
      have c1 := hB.cell 1 rfl
      have c2 := hB.cell 2 rfl
      have z0 := hZ.cell 0 rfl
      have z1 := hZ.cell 1 rfl
      have z2 := hZ.cell 2 rfl
      have f0 := hZ.free 0
      have f1 := hZ.free 1
      have f2 := hZ.free 2
      have ZR := Lib.hid (((hZ.set 0 (.int .i64 m0)).set 1 (.int .i64 m1)).set 2 (.int .i64 m2))
      have FR := Lib.hid (Fr0.new hF ((((Fr1.refl (gb + 1) wr).set 0 (.int .i64 m0)).set 1 (.int .i64 m1)).set 2 (.int .i64 m2)) (by rw [← HG.out]; exact Nat.le_succ _))
      clear hB hZ hF h0 h1 h2 h3 h4 h5 h6 hs HM HMM
      go_wp2_with fail
      exact bodyPost_ret (v := .tuple #[.agg #[.int .i64 m0, .int .i64 m1, .int .i64 m2], .int .i64 0]) (rmeter_ret ZR.out rfl rfl rfl) rfl ⟨rfl, FR.out⟩
end Go.Proofs.Ytgcjbbliaelkcaa
set_option linter.unusedSimpArgs false
set_option linter.unusedVariables false
namespace Go.Proofs.Ytgcjbbliaelkcaa
open Go.RowKit

theorem lopenPost_err {w : World} {dn : Bool} {o : (Bool × Nat) × List UInt8 × Int} (h : lkErr dn o ≠ 0) : lopenPost w dn o = fun e w' => e = .returned (.tuple #[.agg zPk, .int .i64 (lkErr dn o)]) ∧ Fr0 w w' := by
  funext e w'; unfold lopenPost; rw [if_pos h]
theorem lopenPost_ok {w : World} {dn : Bool} {o : (Bool × Nat) × List UInt8 × Int} (h : lkErr dn o = 0) : lopenPost w dn o = fun e w' => ∃ A c, e = .returned (.tuple #[.agg #[.bool o.1.1, .int .u64 (o.1.2 : Int), .int .i64 ((lkR1 o.2.1).1 : Int), .int .i64 ((lkR2 o.2.1).1 : Int), .slice A (lkR2 o.2.1).2.1.length c], .int .i64 0]) ∧ w'.ownsRow w.heap.size 5 1 (.slice A (lkR2 o.2.1).2.1.length c) (lkR2 o.2.1).2.1.length (byts (lkR2 o.2.1).2.1) ∧ Fr0 w w' := by
  funext e w'; unfold lopenPost; rw [if_neg (by simpa using h)]
theorem hear_nil (now frm : Int) (v : Value) (w : World) : Calls Try.prog 11 #[.pointer none, .int .i64 now, .int .i64 frm, v] w fun e w' => e = .returned (.tuple #[.slice none 0 0, .bool false, .int .i64 1]) ∧ Fr0 w w' := by
  have HT := Lib.hid (lthere_nil w)
  go_enter Try.func11, Try.ntmps11
  go_wp2_with (go_at_call 26; refine (HT.out).mono ?_; rintro e w' ⟨rfl, rfl⟩)
  go_ret3
  exact ⟨rfl, Fr0.refl w⟩
theorem hear_off {p : Nat} {s : Lk} {w : World} (h : LkV w p s) (hm : s.made = false) (now frm : Int) (v : Value) : Calls Try.prog 11 #[.pointer (some ⟨p, 0, none⟩), .int .i64 now, .int .i64 frm, v] w fun e w' => e = .returned (.tuple #[.slice none 0 0, .bool false, .int .i64 1]) ∧ Fr0 w w' := by
  have HT := Lib.hid (lthere_any h)
  rw [hm] at HT
  clear h hm
  go_enter Try.func11, Try.ntmps11
  go_wp2_with (go_at_call 26; refine (HT.out).mono ?_; rintro e w' ⟨rfl, rfl⟩)
  go_ret3
  exact ⟨rfl, Fr0.refl w⟩
def hearOk (now frm : Int) : Prop := (0 ≤ now ∧ now ≤ 1099511627776) ∧ 0 ≤ frm ∧ frm ≤ 65535
set_option maxHeartbeats 1000000 in
theorem hear_arg {p : Nat} {s : Lk} {w : World} {now frm : Int} (h : LkV w p s) (hm : s.made = true) (hn : ¬ hearOk now frm) (v : Value) : Calls Try.prog 11 #[.pointer (some ⟨p, 0, none⟩), .int .i64 now, .int .i64 frm, v] w fun e w' => e = .returned (.tuple #[.slice none 0 0, .bool false, .int .i64 2]) ∧ Fr0 w w' := by
  have HT := Lib.hid (lthere_any h)
  rw [hm] at HT
  have HTI := Lib.hid (time_any now w)
  have HP := Lib.hid (place_any frm w)
  by_cases h1 : 0 ≤ now ∧ now ≤ 1099511627776
  · rw [decide_eq_true h1] at HTI
    rw [decide_eq_false (fun h2 => hn ⟨h1, h2⟩)] at HP
    clear h hm hn h1
    go_enter Try.func11, Try.ntmps11
    go_wp2_with (first
      | (go_at_call 26; refine (HT.out).mono ?_; rintro e w' ⟨rfl, rfl⟩)
      | (go_at_call 27; refine (HTI.out).mono ?_; rintro e w' ⟨rfl, rfl⟩)
      | (go_at_call 25; refine (HP.out).mono ?_; rintro e w' ⟨rfl, rfl⟩))
    go_ret3
    exact ⟨rfl, Fr0.refl w⟩
  · rw [decide_eq_false h1] at HTI
    clear h hm hn h1 HP
    go_enter Try.func11, Try.ntmps11
    go_wp2_with (first
      | (go_at_call 26; refine (HT.out).mono ?_; rintro e w' ⟨rfl, rfl⟩)
      | (go_at_call 27; refine (HTI.out).mono ?_; rintro e w' ⟨rfl, rfl⟩))
    go_ret3
    exact ⟨rfl, Fr0.refl w⟩
set_option maxHeartbeats 1000000 in
theorem hear_err {p : Nat} {s : Lk} {w : World} {now frm : Int} {code mark b : List UInt8} {v : Value} (h : LkV w p s) (hm : s.made = true) (hok : hearOk now frm) (hkey : s.key = code ++ mark) (hc : code.length = 16) (hmk : mark.length = 32) (hb : RdB w v b) (he : lkErr s.down (openP code mark b) ≠ 0) :
    Calls Try.prog 11 #[.pointer (some ⟨p, 0, none⟩), .int .i64 now, .int .i64 frm, v] w fun e w' => e = .returned (.tuple #[.slice none 0 0, .bool false, .int .i64 (lkErr s.down (openP code mark b))]) ∧ Fr0 w w' := by
  have HT := Lib.hid (lthere_any h)
  rw [hm] at HT
  have HTI := Lib.hid (time_any now w)
  rw [decide_eq_true hok.1] at HTI
  have HP := Lib.hid (place_any frm w)
  rw [decide_eq_true hok.2] at HP
  have HO := Lib.hid (lopen_any h hkey hc hmk hb)
  rw [lopenPost_err he] at HO
  have tE : (lkErr s.down (openP code mark b) != 0) = true := bne_iff_ne.2 he
  obtain ⟨E, hE⟩ : ∃ E, E = lkErr s.down (openP code mark b) := ⟨_, rfl⟩
  rw [← hE] at HO tE ⊢
  obtain ⟨zp, hzp⟩ : ∃ z, z = zPk := ⟨_, rfl⟩
  have HZ := Lib.hid hzp
  unfold zPk at HO
  clear h hm hok hkey hc hmk hb he hE hzp HZ zp
  go_enter Try.func11, Try.ntmps11
  go_wp2_with (first
    | (go_at_call 30; refine (HO.out).mono ?_; rintro e w2 ⟨rfl, hf⟩; have F2 := Lib.hid (hf.alloc (.cells #[.bool false, .int .u64 0, .int .i64 0, .int .i64 0, .slice none 0 0] 81)); clear hf)
    | (go_at_call 26; refine (HT.out).mono ?_; rintro e w' ⟨rfl, rfl⟩)
    | (go_at_call 27; refine (HTI.out).mono ?_; rintro e w' ⟨rfl, rfl⟩)
    | (go_at_call 25; refine (HP.out).mono ?_; rintro e w' ⟨rfl, rfl⟩))
  go_ret3
  exact ⟨rfl, F2.out⟩
/-- How long a way took. -/
def tkOf (now : Int) (a2 : Nat) : Nat := ((now % 65535 - (a2 : Int) + 65535) % 65535).toNat
/-- How a link stands behind a packet that is news. -/
def hearLk (s : Lk) (now frm : Int) (N a a2 : Nat) : Lk :=
  if a2 ≠ 65535 ∧ tkOf now a2 ≤ 5000 then { s with heard := true, newest := N, addr := if s.down then frm else s.addr, eis := true, stamp := (a : Int), eat := now, many := (metOne s.many s.mid s.off (tkOf now a2 : Int)).1, mid := (metOne s.many s.mid s.off (tkOf now a2 : Int)).2.1, off := (metOne s.many s.mid s.off (tkOf now a2 : Int)).2.2 }
  else { s with heard := true, newest := N, addr := if s.down then frm else s.addr, eis := true, stamp := (a : Int), eat := now }
set_option maxHeartbeats 1000000 in
set_option maxRecDepth 100000 in
theorem hear_old {p : Nat} {s : Lk} {w : World} {now frm : Int} {code mark b : List UInt8} {v : Value} (h : LkV w p s) (hm : s.made = true) (hok : hearOk now frm) (hkey : s.key = code ++ mark) (hc : code.length = 16) (hmk : mark.length = 32) (hb : RdB w v b) (he : lkErr s.down (openP code mark b) = 0) (hold : s.heard = true ∧ (openP code mark b).1.2 ≤ s.newest)
    (hR : (lkR2 (openP code mark b).2.1).2.1.length ≤ 2000) :
    Calls Try.prog 11 #[.pointer (some ⟨p, 0, none⟩), .int .i64 now, .int .i64 frm, v] w fun e w' => ∃ A c, e = .returned (.tuple #[.slice A (lkR2 (openP code mark b).2.1).2.1.length c, .bool false, .int .i64 0]) ∧ w'.ownsRow w.heap.size 5 1 (.slice A (lkR2 (openP code mark b).2.1).2.1.length c) (lkR2 (openP code mark b).2.1).2.1.length (byts (lkR2 (openP code mark b).2.1).2.1) ∧ Fr0 w w' := by
  have HT := Lib.hid (lthere_any h)
  rw [hm] at HT
  have HTI := Lib.hid (time_any now w)
  rw [decide_eq_true hok.1] at HTI
  have HP := Lib.hid (place_any frm w)
  rw [decide_eq_true hok.2] at HP
  have HO := Lib.hid (lopen_any h hkey hc hmk hb)
  rw [lopenPost_ok he] at HO
  have HL := Lib.hid h
  obtain ⟨⟨⟨D, N⟩, T, E⟩, ho⟩ : ∃ o, o = openP code mark b := ⟨_, rfl⟩
  rw [← ho] at HO hold hR ⊢
  simp only [] at HO hold hR ⊢
  obtain ⟨R, hRR⟩ : ∃ R, R = (lkR2 T).2.1 := ⟨_, rfl⟩
  rw [← hRR] at HO hR ⊢
  obtain ⟨a, haa⟩ : ∃ a, a = (lkR1 T).1 := ⟨_, rfl⟩
  obtain ⟨a2, haa2⟩ : ∃ a, a = (lkR2 T).1 := ⟨_, rfl⟩
  rw [← haa, ← haa2] at HO
  have HCL := Lib.hid (fun W A c (hr : RdB W (.slice A R.length c) R) => show Calls Try.prog 31 #[.slice A R.length c] W (fun e w' => ∃ A c, e = .returned (.slice A R.length c) ∧ w'.ownsRow W.heap.size 5 1 (.slice A R.length c) R.length (byts R) ∧ Fr0 W w') from (bytesClone_any hr (by omega)).mono (by
    rintro e w' ⟨v', rfl, ho, hf⟩
    obtain ⟨A, c, rfl, -, -, -⟩ := own_form ho
    exact ⟨A, c, rfl, ho, hf⟩))
  have tN : decide ((N : Int) ≤ (s.newest : Int)) = true := decide_eq_true (by omega)
  have tN' : decide (N ≤ s.newest) = true := decide_eq_true hold.2
  have c52 : w.cell? ⟨p, 52, none⟩ = some (.bool true) := by have h := (HL.out).cell 3 (v := .bool s.heard) rfl; rw [hold.1] at h; exact h
  have c53 : w.cell? ⟨p, 53, none⟩ = some (.int .u64 (s.newest : Int)) := (HL.out).cell 4 rfl
  have HC52 := Lib.hid c52
  have HC53 := Lib.hid c53
  obtain ⟨nd, hnd⟩ : ∃ n, n = R.length := ⟨_, rfl⟩
  rw [← hnd] at HO HCL ⊢
  have HND := Lib.hid hnd
  clear h hm hok hkey hc hmk hb he hold hR ho hRR haa haa2 c52 c53 hnd
  go_enter Try.func11, Try.ntmps11
  go_upto_region 9 with (first
    | (go_at_call 30; refine (HO.out).mono ?_; rintro e w2 ⟨A2, c2, rfl, ho, hf⟩; have F2 := Lib.hid (hf.alloc (.cells #[.bool D, .int .u64 (N : Int), .int .i64 (a : Int), .int .i64 (a2 : Int), .slice A2 nd c2] 81)); have K2 := Lib.hid (Blk.new w2 #[.bool D, .int .u64 (N : Int), .int .i64 (a : Int), .int .i64 (a2 : Int), .slice A2 nd c2] 81); have O2 := Lib.hid (own_fr ho ((Fr0.refl w2).alloc (.cells #[.bool D, .int .u64 (N : Int), .int .i64 (a : Int), .int .i64 (a2 : Int), .slice A2 nd c2] 81)) (fun _ _ h => h)); have k1 := (K2.out).cell 1 rfl; have c52 := Fr0.cell F2.out HC52.out; have c53 := Fr0.cell F2.out HC53.out; clear hf ho)
    | (go_at_call 26; refine (HT.out).mono ?_; rintro e w' ⟨rfl, rfl⟩)
    | (go_at_call 27; refine (HTI.out).mono ?_; rintro e w' ⟨rfl, rfl⟩)
    | (go_at_call 25; refine (HP.out).mono ?_; rintro e w' ⟨rfl, rfl⟩))
  go_quiet (fail)
  generalize hwd : (World.drewN _ _) = wd at *
  have KD := Lib.hid (show Blk wd w2.heap.size #[.bool D, .int .u64 (N : Int), .int .i64 (a : Int), .int .i64 (a2 : Int), .slice A2 nd c2] 81 by rw [← hwd]; exact (K2.out).drewN _)
  have FD := Lib.hid (show Fr0 w wd by rw [← hwd]; exact (F2.out).drewN _)
  have OD := Lib.hid (show wd.ownsRow w.heap.size 5 1 (.slice A2 nd c2) nd (byts R) by rw [← hwd]; exact own_fr O2.out ((Fr0.refl _).drewN _) (fun _ _ h => h))
  clear hwd K2 F2 O2 c52 c53 k1
  have k4 := (KD.out).cell 4 rfl
  go_wp2_with (go_at_call 31; refine (HCL.out _ _ _ (show RdB _ _ _ by have h := Rd.of_own OD.out; unfold RdB; rw [HND.out] at h ⊢; exact h)).mono ?_; rintro e w8 ⟨A8, c8, rfl, ho, hf⟩; have O8 := Lib.hid (own_baseW ho (FD.out).size); have F8 := Lib.hid (Fr0.trans FD.out hf); clear ho hf)
  go_ret3
  exact ⟨_, _, rfl, O8.out, F8.out⟩
set_option maxHeartbeats 4000000 in
set_option maxRecDepth 100000 in
theorem hear_new {p : Nat} {s : Lk} {w : World} {now frm : Int} {code mark b : List UInt8} {v : Value} {N a a2 : Nat} {R : List UInt8} (h : LkV w p s) (hm : s.made = true) (hok : hearOk now frm) (hkey : s.key = code ++ mark) (hc : code.length = 16) (hmk : mark.length = 32) (hb : RdB w v b) (he : lkErr s.down (openP code mark b) = 0) (hnew : ¬ (s.heard = true ∧ (openP code mark b).1.2 ≤ s.newest))
    (hN : N = (openP code mark b).1.2) (ha : a = (lkR1 (openP code mark b).2.1).1) (ha2 : a2 = (lkR2 (openP code mark b).2.1).1) (hR : R = (lkR2 (openP code mark b).2.1).2.1) (hRl : R.length ≤ 2000) (hal : a2 < 65536) (hmt : mayM s.many s.mid s.off) :
    Calls Try.prog 11 #[.pointer (some ⟨p, 0, none⟩), .int .i64 now, .int .i64 frm, v] w fun e w' => ∃ A c, e = .returned (.tuple #[.slice A R.length c, .bool true, .int .i64 0]) ∧ w'.ownsRow w.heap.size 5 1 (.slice A R.length c) R.length (byts R) ∧ LkV w' p (hearLk s now frm N a a2) ∧ Fr1 p w w' := by
  have HT := Lib.hid (lthere_any h)
  rw [hm] at HT
  have HTI := Lib.hid (time_any now w)
  rw [decide_eq_true hok.1] at HTI
  have HP := Lib.hid (place_any frm w)
  rw [decide_eq_true hok.2] at HP
  have HO := Lib.hid (lopen_any h hkey hc hmk hb)
  rw [lopenPost_ok he, ← hN, ← ha, ← ha2, ← hR] at HO
  have HL := Lib.hid h
  rw [← hN] at hnew
  obtain ⟨D, hDD⟩ : ∃ D, D = (openP code mark b).1.1 := ⟨_, rfl⟩
  rw [← hDD] at HO
  have HCL := Lib.hid (fun W A c (hr : RdB W (.slice A R.length c) R) => show Calls Try.prog 31 #[.slice A R.length c] W (fun e w' => ∃ A c, e = .returned (.slice A R.length c) ∧ w'.ownsRow W.heap.size 5 1 (.slice A R.length c) R.length (byts R) ∧ Fr0 W w') from (bytesClone_any hr (by omega)).mono (by
    rintro e w' ⟨v', rfl, ho, hf⟩
    obtain ⟨A, c, rfl, -, -, -⟩ := own_form ho
    exact ⟨A, c, rfl, ho, hf⟩))
  obtain ⟨nd, hnd⟩ : ∃ n, n = R.length := ⟨_, rfl⟩
  rw [← hnd] at HO HCL ⊢
  have HND := Lib.hid hnd
  obtain ⟨nm, hnm⟩ : ∃ n : Nat, n = (now % 65535).toNat := ⟨_, rfl⟩
  have hnm2 : (nm : Int) = now % 65535 := by omega
  have q1 : now.tmod 65535 = (nm : Int) := by rw [Int.tmod_eq_emod_of_nonneg hok.1.1]; omega
  have q2 : IntKind.i64.wrap (nm : Int) = (nm : Int) := IntWalk.i64_in _ (by omega)
  have q3 : IntKind.i64.wrap ((nm : Int) - (a2 : Int)) = (nm : Int) - (a2 : Int) := IntWalk.i64_in _ (by omega)
  have q4 : IntKind.i64.wrap ((nm : Int) - (a2 : Int) + 65535) = (nm : Int) - (a2 : Int) + 65535 := IntWalk.i64_in _ (by omega)
  obtain ⟨tk, htk⟩ : ∃ n : Nat, n = tkOf now a2 := ⟨_, rfl⟩
  have q5 : ((nm : Int) - (a2 : Int) + 65535).tmod 65535 = (tk : Int) := by rw [Int.tmod_eq_emod_of_nonneg (by omega), htk, hnm2]; unfold tkOf; omega
  have q6 : IntKind.i64.wrap (tk : Int) = (tk : Int) := IntWalk.i64_in _ (by unfold tkOf at htk; omega)
  have HTK := Lib.hid htk.symm
  obtain ⟨m, hmm⟩ : ∃ m, m = metOne s.many s.mid s.off (tk : Int) := ⟨_, rfl⟩
  have HM0 := Lib.hid hmm
  have HRT0 := Lib.hid (fun W g (hk : tk ≤ 5000) (hb : Blk W g #[.int .i64 (tk : Int)] 3) => rhear_any hmt (s := (tk : Int)) (by omega) hb)
  rw [← hmm] at HRT0
  obtain ⟨m0, m1, m2⟩ := m
  simp only [] at HRT0
  clear hmm hnm hnm2 hnd htk hRl hmt hm hok hkey hc hmk hb he hN ha ha2 hR hDD
  go_enter Try.func11, Try.ntmps11
  go_upto_region 9 with (first
    | (go_at_call 30; refine (HO.out).mono ?_; rintro e w2 ⟨A, c, rfl, ho, hf⟩; have F2 := Lib.hid (hf.alloc (.cells #[.bool D, .int .u64 (N : Int), .int .i64 (a : Int), .int .i64 (a2 : Int), .slice A nd c] 81)); have K2 := Lib.hid (Blk.new w2 #[.bool D, .int .u64 (N : Int), .int .i64 (a : Int), .int .i64 (a2 : Int), .slice A nd c] 81); have O2 := Lib.hid (own_fr ho ((Fr0.refl w2).alloc (.cells #[.bool D, .int .u64 (N : Int), .int .i64 (a : Int), .int .i64 (a2 : Int), .slice A nd c] 81)) (fun _ _ h => h)); have L2 := Lib.hid ((HL.out).fr0 F2.out); have NE0 := Lib.hid (show p ≠ w2.heap.size from by have h1 := (HL.out).lt; have h2 := hf.size; omega); clear hf ho)
    | (go_at_call 26; refine (HT.out).mono ?_; rintro e w' ⟨rfl, rfl⟩)
    | (go_at_call 27; refine (HTI.out).mono ?_; rintro e w' ⟨rfl, rfl⟩)
    | (go_at_call 25; refine (HP.out).mono ?_; rintro e w' ⟨rfl, rfl⟩))
  obtain ⟨gk, hgk⟩ : ∃ g, g = w2.heap.size := ⟨_, rfl⟩
  rw [← hgk] at K2 NE0 ⊢
  have NE := Lib.hid (show gk ≠ p from fun e => NE0.out e.symm)
  clear hgk NE0 h
  go_cut [50] (fun s50 wx => s50 = .bool false ∧ LkV wx p s ∧ Blk wx gk #[.bool D, .int .u64 (N : Int), .int .i64 (a : Int), .int .i64 (a2 : Int), .slice A nd c] 81 ∧ wx.ownsRow w.heap.size 5 1 (.slice A nd c) nd (byts R) ∧ Fr0 w wx)
  case first =>
    have k1 := (K2.out).cell 1 rfl
    have c53 : World.cell? (w2.alloc (.cells #[.bool D, .int .u64 (N : Int), .int .i64 (a : Int), .int .i64 (a2 : Int), .slice A nd c] 81)) ⟨p, 53, none⟩ = some (.int .u64 (s.newest : Int)) := (L2.out).cell 4 rfl
    by_cases hH : s.heard = true
    · have c52 : World.cell? (w2.alloc (.cells #[.bool D, .int .u64 (N : Int), .int .i64 (a : Int), .int .i64 (a2 : Int), .slice A nd c] 81)) ⟨p, 52, none⟩ = some (.bool true) := by have h := (L2.out).cell 3 (v := .bool s.heard) rfl; rw [hH] at h; exact h
      have tN : decide ((N : Int) ≤ (s.newest : Int)) = false := decide_eq_false (fun h => hnew ⟨hH, by omega⟩)
      have tN' : decide (N ≤ s.newest) = false := decide_eq_false (fun h => hnew ⟨hH, h⟩)
      clear hnew hH
      go_quiet (fail)
      go_wp2_with fail
      go_meet
      exact ⟨rfl, (L2.out).fr0 ((Fr0.refl _).drewN _), (K2.out).drewN _, own_fr O2.out ((Fr0.refl _).drewN _) (fun _ _ h => h), (F2.out).drewN _⟩
    · have c52 : World.cell? (w2.alloc (.cells #[.bool D, .int .u64 (N : Int), .int .i64 (a : Int), .int .i64 (a2 : Int), .slice A nd c] 81)) ⟨p, 52, none⟩ = some (.bool false) := by have h := (L2.out).cell 3 (v := .bool s.heard) rfl; rw [show s.heard = false by simpa using hH] at h; exact h
      clear hnew hH
      go_quiet (fail)
      go_wp2_with fail
      go_meet
      exact ⟨rfl, (L2.out).fr0 ((Fr0.refl _).drewN _), (K2.out).drewN _, own_fr O2.out ((Fr0.refl _).drewN _) (fun _ _ h => h), (F2.out).drewN _⟩
  case rest =>
    obtain ⟨rfl, hL, hK, hO, hF⟩ := hcut
    obtain ⟨wx, hwx⟩ : ∃ x, x = wc := ⟨_, rfl⟩
    rw [← hwx] at hL hK hO hF ⊢
    have L := Lib.hid hL
    have K := Lib.hid hK
    have O := Lib.hid hO
    have F := Lib.hid hF
    clear hL hK hO hF L2 K2 O2 F2 HO HT HTI HP hnew hwx
    go_upto_region 11 with (fail)
    go_cut [58] (fun s58 wt => LkV wt p { s with heard := true, newest := N } ∧ Blk wt gk #[.bool D, .int .u64 (N : Int), .int .i64 (a : Int), .int .i64 (a2 : Int), .slice A nd c] 81 ∧ wt.ownsRow w.heap.size 5 1 (.slice A nd c) nd (byts R) ∧ Fr1 p w wt)
    case first =>
      have KA := Lib.hid (Blk.drew K.out)
      have LV := Lib.hid ((L.out).drew)
      have OA := Lib.hid (show wx.drew.ownsRow w.heap.size 5 1 (.slice A nd c) nd (byts R) from own_fr O.out ((Fr0.refl wx).drew) (fun _ _ h => h))
      have FA := Lib.hid (Fr1.of0 (b := p) (Fr0.drew F.out))
      clear K L O F
      refine wp_region_held_drew (S := (fun W => Blk W gk #[.bool D, .int .u64 (N : Int), .int .i64 (a : Int), .int .i64 (a2 : Int), .slice A nd c] 81)) (by kernel_rfl) KA.out (fun hHeld => ?_)
      generalize wx.drew = wa at *
      have _hI : True := trivial
      clear _hI
      refine takeH (i := 0) rfl (by kernel_rfl) (by kernel_rfl) (by kernel_rfl) (fun _ _ _ h => h) (v := .pointer (some ⟨p, 0, none⟩)) (.inl ⟨rfl, fun W hW => (by go_simp; try rfl)⟩) KA.out ?_
      try simp only [Act.put, List.setIfInBounds_toArray, List.set_cons_zero, List.set_cons_succ]
      have _hI : True := trivial
      clear _hI
      refine takeH (i := 1) rfl (by kernel_rfl) (by kernel_rfl) (by kernel_rfl) (fun _ _ _ h => h) (v := .pointer (some ⟨p, 0, none⟩)) (.inl ⟨rfl, fun W hW => (by go_simp; try rfl)⟩) KA.out ?_
      try simp only [Act.put, List.setIfInBounds_toArray, List.set_cons_zero, List.set_cons_succ]
      have _hI : True := trivial
      clear _hI
      refine takeH (i := 2) rfl (by kernel_rfl) (by kernel_rfl) (by kernel_rfl) (fun _ _ _ h => h) (.inl ⟨rfl, fun W hW => (by go_simp; try rfl)⟩) KA.out ?_
      try simp only [Act.put, List.setIfInBounds_toArray, List.set_cons_zero, List.set_cons_succ]
      have _hI : True := trivial
      clear _hI
      refine takeH (i := 3) rfl (by kernel_rfl) (by kernel_rfl) (by kernel_rfl) (fun _ _ _ h => h) (.inl ⟨rfl, fun W hW => (by go_simp; try rfl)⟩) KA.out ?_
      try simp only [Act.put, List.setIfInBounds_toArray, List.set_cons_zero, List.set_cons_succ]
      have _hI : True := trivial
      clear _hI
      refine takeH (i := 4) rfl (by kernel_rfl) (by kernel_rfl) (by kernel_rfl) (fun _ _ _ h => h) (v := .int .u64 (N : Int)) (.inl ⟨rfl, fun W hW => (by have k1 := Blk.cell hW 1 rfl; go_simp; try rfl)⟩) KA.out ?_
      try simp only [Act.put, List.setIfInBounds_toArray, List.set_cons_zero, List.set_cons_succ]
      have _hI : True := trivial
      clear _hI
      refine takeH (i := 5) rfl (by kernel_rfl) (by kernel_rfl) (by kernel_rfl) (fun _ _ _ h => h) (v := .pointer (some ⟨p, 0, none⟩)) (.inl ⟨rfl, fun W hW => (by go_simp; try rfl)⟩) KA.out ?_
      try simp only [Act.put, List.setIfInBounds_toArray, List.set_cons_zero, List.set_cons_succ]
      have _hI : True := trivial
      clear _hI
      refine takeH (i := 6) rfl (by kernel_rfl) (by kernel_rfl) (by kernel_rfl) (fun _ _ _ h => h) (.inl ⟨rfl, fun W hW => (by go_simp; try rfl)⟩) KA.out ?_
      try simp only [Act.put, List.setIfInBounds_toArray, List.set_cons_zero, List.set_cons_succ]
      have _hI : True := trivial
      clear _hI
      refine wpAnyH_ready (rs := [7]) (by kernel_rfl) (by simp) (consG rfl rfl (fun K hK => ?_) AllReadyH.nil)
      have _hI : True := trivial
      clear _hI
      have c52 := (LV.out).cell 3 rfl
      simp only [Nat.reduceAdd] at c52
      have f52 := (LV.out).free 52
      go_simp
      have fs := (Fr1.refl p wa).set 52 (.bool true)
      have LX := (LV.out).put (s' := { s with heard := true }) 3 (.bool true) rfl rfl rfl
      replace KA := Lib.hid ((KA.out).fr1 fs NE.out)
      replace OA := Lib.hid (own_fr OA.out fs (fun g hg e => own_ne OA.out (LV.out).blk (by decide) g hg e))
      replace FA := Lib.hid (Fr1.trans FA.out fs)
      replace LV := Lib.hid LX
      clear fs LX c52 f52
      refine hK.out _ _ KA.out ?_
      clear hK
      try simp only [Act.put, List.setIfInBounds_toArray, List.set_cons_zero, List.set_cons_succ]
      have _hI : True := trivial
      clear _hI
      refine takeH (i := 8) rfl (by kernel_rfl) (by kernel_rfl) (by kernel_rfl) (fun _ _ _ h => h) (v := .pointer (some ⟨p, 0, none⟩)) (.inl ⟨rfl, fun W hW => (by go_simp; try rfl)⟩) KA.out ?_
      try simp only [Act.put, List.setIfInBounds_toArray, List.set_cons_zero, List.set_cons_succ]
      have _hI : True := trivial
      clear _hI
      refine takeH (i := 9) rfl (by kernel_rfl) (by kernel_rfl) (by kernel_rfl) (fun _ _ _ h => h) (.inl ⟨rfl, fun W hW => (by go_simp; try rfl)⟩) KA.out ?_
      try simp only [Act.put, List.setIfInBounds_toArray, List.set_cons_zero, List.set_cons_succ]
      have _hI : True := trivial
      clear _hI
      refine wpAnyH_ready (rs := [10]) (by kernel_rfl) (by simp) (consG rfl rfl (fun K hK => ?_) AllReadyH.nil)
      have _hI : True := trivial
      clear _hI
      have c53 := (LV.out).cell 4 rfl
      simp only [Nat.reduceAdd] at c53
      have f53 := (LV.out).free 53
      go_simp
      have fs := (Fr1.refl p (wa.setCell ⟨p, 52, none⟩ (.bool true))).set 53 (.int .u64 (N : Int))
      have LX := (LV.out).put (s' := { s with heard := true, newest := N }) 4 (.int .u64 (N : Int)) rfl rfl rfl
      replace KA := Lib.hid ((KA.out).fr1 fs NE.out)
      replace OA := Lib.hid (own_fr OA.out fs (fun g hg e => own_ne OA.out (LV.out).blk (by decide) g hg e))
      replace FA := Lib.hid (Fr1.trans FA.out fs)
      replace LV := Lib.hid LX
      clear fs LX c53 f53
      refine hK.out _ _ KA.out ?_
      clear hK
      try simp only [Act.put, List.setIfInBounds_toArray, List.set_cons_zero, List.set_cons_succ]
      refine wpAnyH_done (by kernel_rfl) ?_ _
      go_wp2_with fail
      go_meet
      exact ⟨LV.out, KA.out, OA.out, FA.out⟩
    case rest =>
      obtain ⟨hLT, hKT, hOT, hFT⟩ := hcut
      obtain ⟨wt, hwt⟩ : ∃ x, x = wc := ⟨_, rfl⟩
      rw [← hwt] at hLT hKT hOT hFT ⊢
      have LT := Lib.hid hLT
      have KT := Lib.hid hKT
      have OT := Lib.hid hOT
      have FT := Lib.hid hFT
      clear hLT hKT hOT hFT hwt K L O F
      by_cases hd : s.down = true
      · skip
        by_cases hq : a2 = 65535
        · have tq : ((a2 : Int) != 65535) = false := by rw [hq]; rfl
          have fA : Fr1 p wt (wt.setCell ⟨p, 51, none⟩ (.int .i64 frm)) := (Fr1.refl p wt).set 51 (.int .i64 frm)
          have LA : LkV (wt.setCell ⟨p, 51, none⟩ (.int .i64 frm)) p { s with heard := true, newest := N, addr := frm } := (LT.out).put 2 (.int .i64 frm) rfl rfl rfl
          have fB : Fr1 p (wt.setCell ⟨p, 51, none⟩ (.int .i64 frm)) ((((wt.setCell ⟨p, 51, none⟩ (.int .i64 frm)).setCell ⟨p, 57, none⟩ (.bool true)).setCell ⟨p, 58, none⟩ (.int .i64 (a : Int))).setCell ⟨p, 59, none⟩ (.int .i64 now)) := (((Fr1.refl p _).set 57 (.bool true)).set 58 (.int .i64 (a : Int))).set 59 (.int .i64 now)
          have LB0 := LA.put (s' := { s with heard := true, newest := N, addr := frm, eis := true }) 8 (.bool true) rfl rfl rfl
          have LB1 := LB0.put (s' := { s with heard := true, newest := N, addr := frm, eis := true, stamp := (a : Int) }) 9 (.int .i64 (a : Int)) rfl rfl rfl
          have LB : LkV ((((wt.setCell ⟨p, 51, none⟩ (.int .i64 frm)).setCell ⟨p, 57, none⟩ (.bool true)).setCell ⟨p, 58, none⟩ (.int .i64 (a : Int))).setCell ⟨p, 59, none⟩ (.int .i64 now)) p { s with heard := true, newest := N, addr := frm, eis := true, stamp := (a : Int), eat := now } := LB1.put 10 (.int .i64 now) rfl rfl rfl
          have cd : wt.cell? ⟨p, 49, none⟩ = some (.bool true) := by have h := (LT.out).cell 0 (v := .bool s.down) rfl; rw [hd] at h; exact h
          have c51 : wt.cell? ⟨p, 51, none⟩ = some (.int .i64 s.addr) := (LT.out).cell 2 rfl
          have f51 := (LT.out).free 51
          have KA := (KT.out).fr1 fA NE.out
          have k2 := KA.cell 2 rfl
          have c57 : World.cell? (wt.setCell ⟨p, 51, none⟩ (.int .i64 frm)) ⟨p, 57, none⟩ = some (.bool s.eis) := LA.cell 8 rfl
          have c58 : World.cell? (wt.setCell ⟨p, 51, none⟩ (.int .i64 frm)) ⟨p, 58, none⟩ = some (.int .i64 s.stamp) := LA.cell 9 rfl
          have c59 : World.cell? (wt.setCell ⟨p, 51, none⟩ (.int .i64 frm)) ⟨p, 59, none⟩ = some (.int .i64 s.eat) := LA.cell 10 rfl
          have f57 := LA.free 57
          have f58 := LA.free 58
          have f59 := LA.free 59
          have KB := Lib.hid (KA.fr1 fB NE.out)
          have k3 := (KB.out).cell 3 rfl
          have OA := own_fr OT.out fA (fun g hg e => own_ne OT.out (LT.out).blk (by decide) g hg e)
          have OB := Lib.hid (own_fr OA fB (fun g hg e => own_ne OA LA.blk (by decide) g hg e))
          have FB := Lib.hid (Fr1.trans (Fr1.trans FT.out fA) fB)
          have k4 := (KB.out).cell 4 rfl
          have HEQ := Lib.hid (show hearLk s now frm N a a2 = { s with heard := true, newest := N, addr := frm, eis := true, stamp := (a : Int), eat := now } by unfold hearLk; rw [HTK.out, if_neg (fun h => h.1 hq), hd]; rfl)
          have LBH := Lib.hid LB
          clear fA LA fB LB0 LB1 LB KA OA LT KT OT FT hd
          go_wp2_with (go_at_call 31; refine (HCL.out _ _ _ (show RdB _ _ _ by have h := Rd.of_own OB.out; unfold RdB; rw [HND.out] at h ⊢; exact h)).mono ?_; rintro e w8 ⟨A8, c8, rfl, ho, hf⟩; have O8 := Lib.hid (own_baseW ho (Nat.le_trans (FB.out).size (Nat.le_refl _))); have L8 := Lib.hid ((LBH.out).fr0 hf); have F8 := Lib.hid (Fr1.trans FB.out (Fr1.of0 hf)); clear ho hf)
          go_ret3
          exact ⟨_, _, rfl, O8.out, by rw [HEQ.out]; exact L8.out, F8.out⟩
        have tq : ((a2 : Int) != 65535) = true := bne_iff_ne.2 (by omega)
        by_cases hk : tk ≤ 5000
        · have tk1 : decide ((tk : Int) ≤ 5000) = true := decide_eq_true (by omega)
          have HRT := Lib.hid (fun W g hb => HRT0.out W g hk hb)
          have fA : Fr1 p wt (wt.setCell ⟨p, 51, none⟩ (.int .i64 frm)) := (Fr1.refl p wt).set 51 (.int .i64 frm)
          have LA : LkV (wt.setCell ⟨p, 51, none⟩ (.int .i64 frm)) p { s with heard := true, newest := N, addr := frm } := (LT.out).put 2 (.int .i64 frm) rfl rfl rfl
          have fB : Fr1 p (wt.setCell ⟨p, 51, none⟩ (.int .i64 frm)) ((((wt.setCell ⟨p, 51, none⟩ (.int .i64 frm)).setCell ⟨p, 57, none⟩ (.bool true)).setCell ⟨p, 58, none⟩ (.int .i64 (a : Int))).setCell ⟨p, 59, none⟩ (.int .i64 now)) := (((Fr1.refl p _).set 57 (.bool true)).set 58 (.int .i64 (a : Int))).set 59 (.int .i64 now)
          have LB0 := LA.put (s' := { s with heard := true, newest := N, addr := frm, eis := true }) 8 (.bool true) rfl rfl rfl
          have LB1 := LB0.put (s' := { s with heard := true, newest := N, addr := frm, eis := true, stamp := (a : Int) }) 9 (.int .i64 (a : Int)) rfl rfl rfl
          have LB : LkV ((((wt.setCell ⟨p, 51, none⟩ (.int .i64 frm)).setCell ⟨p, 57, none⟩ (.bool true)).setCell ⟨p, 58, none⟩ (.int .i64 (a : Int))).setCell ⟨p, 59, none⟩ (.int .i64 now)) p { s with heard := true, newest := N, addr := frm, eis := true, stamp := (a : Int), eat := now } := LB1.put 10 (.int .i64 now) rfl rfl rfl
          have cd : wt.cell? ⟨p, 49, none⟩ = some (.bool true) := by have h := (LT.out).cell 0 (v := .bool s.down) rfl; rw [hd] at h; exact h
          have c51 : wt.cell? ⟨p, 51, none⟩ = some (.int .i64 s.addr) := (LT.out).cell 2 rfl
          have f51 := (LT.out).free 51
          have KA := (KT.out).fr1 fA NE.out
          have k2 := KA.cell 2 rfl
          have c57 : World.cell? (wt.setCell ⟨p, 51, none⟩ (.int .i64 frm)) ⟨p, 57, none⟩ = some (.bool s.eis) := LA.cell 8 rfl
          have c58 : World.cell? (wt.setCell ⟨p, 51, none⟩ (.int .i64 frm)) ⟨p, 58, none⟩ = some (.int .i64 s.stamp) := LA.cell 9 rfl
          have c59 : World.cell? (wt.setCell ⟨p, 51, none⟩ (.int .i64 frm)) ⟨p, 59, none⟩ = some (.int .i64 s.eat) := LA.cell 10 rfl
          have f57 := LA.free 57
          have f58 := LA.free 58
          have f59 := LA.free 59
          have KB := Lib.hid (KA.fr1 fB NE.out)
          have k3 := (KB.out).cell 3 rfl
          have OA := own_fr OT.out fA (fun g hg e => own_ne OT.out (LT.out).blk (by decide) g hg e)
          have OB := Lib.hid (own_fr OA fB (fun g hg e => own_ne OA LA.blk (by decide) g hg e))
          have FB := Lib.hid (Fr1.trans (Fr1.trans FT.out fA) fB)
          have hsz : (World.heap ((((wt.setCell ⟨p, 51, none⟩ (.int .i64 frm)).setCell ⟨p, 57, none⟩ (.bool true)).setCell ⟨p, 58, none⟩ (.int .i64 (a : Int))).setCell ⟨p, 59, none⟩ (.int .i64 now))).size = wt.heap.size := by simp [World.setCell]
          have c54 : World.cell? ((((wt.setCell ⟨p, 51, none⟩ (.int .i64 frm)).setCell ⟨p, 57, none⟩ (.bool true)).setCell ⟨p, 58, none⟩ (.int .i64 (a : Int))).setCell ⟨p, 59, none⟩ (.int .i64 now)) ⟨p, 54, none⟩ = some (.int .i64 s.many) := LB.cell 5 rfl
          have c55 : World.cell? ((((wt.setCell ⟨p, 51, none⟩ (.int .i64 frm)).setCell ⟨p, 57, none⟩ (.bool true)).setCell ⟨p, 58, none⟩ (.int .i64 (a : Int))).setCell ⟨p, 59, none⟩ (.int .i64 now)) ⟨p, 55, none⟩ = some (.int .i64 s.mid) := LB.cell 6 rfl
          have c56 : World.cell? ((((wt.setCell ⟨p, 51, none⟩ (.int .i64 frm)).setCell ⟨p, 57, none⟩ (.bool true)).setCell ⟨p, 58, none⟩ (.int .i64 (a : Int))).setCell ⟨p, 59, none⟩ (.int .i64 now)) ⟨p, 56, none⟩ = some (.int .i64 s.off) := LB.cell 7 rfl
          have BN0 := Blk.new ((((wt.setCell ⟨p, 51, none⟩ (.int .i64 frm)).setCell ⟨p, 57, none⟩ (.bool true)).setCell ⟨p, 58, none⟩ (.int .i64 (a : Int))).setCell ⟨p, 59, none⟩ (.int .i64 now)) #[.int .i64 (tk : Int)] 3
          rw [hsz] at BN0
          have BN := Lib.hid BN0
          have HEQ := Lib.hid (show hearLk s now frm N a a2 = { s with heard := true, newest := N, addr := frm, eis := true, stamp := (a : Int), eat := now, many := m0, mid := m1, off := m2 } by unfold hearLk; rw [HTK.out, if_pos ⟨hq, hk⟩, hd, ← HM0.out]; rfl)
          have LBH := Lib.hid LB
          clear fA LA fB LB0 LB1 LB KA OA LT KT OT FT hd hsz BN0
          go_wp2_with (first
            | (go_at_call 32; refine (HRT.out _ _ BN.out).mono ?_; rintro e w7 ⟨rfl, hf⟩; have fz := Fr0.trans ((Fr0.refl _).alloc (.cells #[.int .i64 (tk : Int)] 3)) hf; have L7 := (LBH.out).fr0 fz; have K7 := (KB.out).fr0 fz; have O7 := own_fr OB.out fz (fun _ _ h => h); have F7 := Fr1.trans FB.out (Fr1.of0 fz); have d54 : w7.cell? ⟨p, 54, none⟩ = some (.int .i64 s.many) := L7.cell 5 rfl; have d55 : w7.cell? ⟨p, 55, none⟩ = some (.int .i64 s.mid) := L7.cell 6 rfl; have d56 : w7.cell? ⟨p, 56, none⟩ = some (.int .i64 s.off) := L7.cell 7 rfl; have f54 := L7.free 54; have f55 := L7.free 55; have f56 := L7.free 56; have fm := (((Fr1.refl p w7).set 54 (.int .i64 m0)).set 55 (.int .i64 m1)).set 56 (.int .i64 m2); have M0 := L7.put (s' := { s with heard := true, newest := N, addr := frm, eis := true, stamp := (a : Int), eat := now, many := m0 }) 5 (.int .i64 m0) rfl rfl rfl; have M1 := M0.put (s' := { s with heard := true, newest := N, addr := frm, eis := true, stamp := (a : Int), eat := now, many := m0, mid := m1 }) 6 (.int .i64 m1) rfl rfl rfl; have L9 := Lib.hid (M1.put (s' := { s with heard := true, newest := N, addr := frm, eis := true, stamp := (a : Int), eat := now, many := m0, mid := m1, off := m2 }) 7 (.int .i64 m2) rfl rfl rfl); have K9 := K7.fr1 fm NE.out; have k4 := K9.cell 4 rfl; have O9 := Lib.hid (own_fr O7 fm (fun g hg e => own_ne O7 L7.blk (by decide) g hg e)); have F9 := Lib.hid (Fr1.trans F7 fm); clear hf fz L7 K7 O7 F7 fm M0 M1 K9)
            | (go_at_call 31; refine (HCL.out _ _ _ (show RdB _ _ _ by have h := Rd.of_own O9.out; unfold RdB; rw [HND.out] at h ⊢; exact h)).mono ?_; rintro e w8 ⟨A8, c8, rfl, ho, hf⟩; have O8 := Lib.hid (own_baseW ho (Nat.le_trans (F9.out).size (Nat.le_refl _))); have L8 := Lib.hid ((L9.out).fr0 hf); have F8 := Lib.hid (Fr1.trans F9.out (Fr1.of0 hf)); clear ho hf))
          go_ret3
          exact ⟨_, _, rfl, O8.out, by rw [HEQ.out]; exact L8.out, F8.out⟩
        · have tk1 : decide ((tk : Int) ≤ 5000) = false := decide_eq_false (by omega)
          have fA : Fr1 p wt (wt.setCell ⟨p, 51, none⟩ (.int .i64 frm)) := (Fr1.refl p wt).set 51 (.int .i64 frm)
          have LA : LkV (wt.setCell ⟨p, 51, none⟩ (.int .i64 frm)) p { s with heard := true, newest := N, addr := frm } := (LT.out).put 2 (.int .i64 frm) rfl rfl rfl
          have fB : Fr1 p (wt.setCell ⟨p, 51, none⟩ (.int .i64 frm)) ((((wt.setCell ⟨p, 51, none⟩ (.int .i64 frm)).setCell ⟨p, 57, none⟩ (.bool true)).setCell ⟨p, 58, none⟩ (.int .i64 (a : Int))).setCell ⟨p, 59, none⟩ (.int .i64 now)) := (((Fr1.refl p _).set 57 (.bool true)).set 58 (.int .i64 (a : Int))).set 59 (.int .i64 now)
          have LB0 := LA.put (s' := { s with heard := true, newest := N, addr := frm, eis := true }) 8 (.bool true) rfl rfl rfl
          have LB1 := LB0.put (s' := { s with heard := true, newest := N, addr := frm, eis := true, stamp := (a : Int) }) 9 (.int .i64 (a : Int)) rfl rfl rfl
          have LB : LkV ((((wt.setCell ⟨p, 51, none⟩ (.int .i64 frm)).setCell ⟨p, 57, none⟩ (.bool true)).setCell ⟨p, 58, none⟩ (.int .i64 (a : Int))).setCell ⟨p, 59, none⟩ (.int .i64 now)) p { s with heard := true, newest := N, addr := frm, eis := true, stamp := (a : Int), eat := now } := LB1.put 10 (.int .i64 now) rfl rfl rfl
          have cd : wt.cell? ⟨p, 49, none⟩ = some (.bool true) := by have h := (LT.out).cell 0 (v := .bool s.down) rfl; rw [hd] at h; exact h
          have c51 : wt.cell? ⟨p, 51, none⟩ = some (.int .i64 s.addr) := (LT.out).cell 2 rfl
          have f51 := (LT.out).free 51
          have KA := (KT.out).fr1 fA NE.out
          have k2 := KA.cell 2 rfl
          have c57 : World.cell? (wt.setCell ⟨p, 51, none⟩ (.int .i64 frm)) ⟨p, 57, none⟩ = some (.bool s.eis) := LA.cell 8 rfl
          have c58 : World.cell? (wt.setCell ⟨p, 51, none⟩ (.int .i64 frm)) ⟨p, 58, none⟩ = some (.int .i64 s.stamp) := LA.cell 9 rfl
          have c59 : World.cell? (wt.setCell ⟨p, 51, none⟩ (.int .i64 frm)) ⟨p, 59, none⟩ = some (.int .i64 s.eat) := LA.cell 10 rfl
          have f57 := LA.free 57
          have f58 := LA.free 58
          have f59 := LA.free 59
          have KB := Lib.hid (KA.fr1 fB NE.out)
          have k3 := (KB.out).cell 3 rfl
          have OA := own_fr OT.out fA (fun g hg e => own_ne OT.out (LT.out).blk (by decide) g hg e)
          have OB := Lib.hid (own_fr OA fB (fun g hg e => own_ne OA LA.blk (by decide) g hg e))
          have FB := Lib.hid (Fr1.trans (Fr1.trans FT.out fA) fB)
          have k4 := (KB.out).cell 4 rfl
          have HEQ := Lib.hid (show hearLk s now frm N a a2 = { s with heard := true, newest := N, addr := frm, eis := true, stamp := (a : Int), eat := now } by unfold hearLk; rw [HTK.out, if_neg (fun h => hk h.2), hd]; rfl)
          have LBH := Lib.hid LB
          clear fA LA fB LB0 LB1 LB KA OA LT KT OT FT hd
          go_wp2_with (go_at_call 31; refine (HCL.out _ _ _ (show RdB _ _ _ by have h := Rd.of_own OB.out; unfold RdB; rw [HND.out] at h ⊢; exact h)).mono ?_; rintro e w8 ⟨A8, c8, rfl, ho, hf⟩; have O8 := Lib.hid (own_baseW ho (Nat.le_trans (FB.out).size (Nat.le_refl _))); have L8 := Lib.hid ((LBH.out).fr0 hf); have F8 := Lib.hid (Fr1.trans FB.out (Fr1.of0 hf)); clear ho hf)
          go_ret3
          exact ⟨_, _, rfl, O8.out, by rw [HEQ.out]; exact L8.out, F8.out⟩
      · replace hd : s.down = false := by simpa using hd
        by_cases hq : a2 = 65535
        · have tq : ((a2 : Int) != 65535) = false := by rw [hq]; rfl
          have fA : Fr1 p wt wt := Fr1.refl p wt
          have LA : LkV wt p { s with heard := true, newest := N, addr := s.addr } := LT.out
          have fB : Fr1 p wt (((wt.setCell ⟨p, 57, none⟩ (.bool true)).setCell ⟨p, 58, none⟩ (.int .i64 (a : Int))).setCell ⟨p, 59, none⟩ (.int .i64 now)) := (((Fr1.refl p _).set 57 (.bool true)).set 58 (.int .i64 (a : Int))).set 59 (.int .i64 now)
          have LB0 := LA.put (s' := { s with heard := true, newest := N, addr := s.addr, eis := true }) 8 (.bool true) rfl rfl rfl
          have LB1 := LB0.put (s' := { s with heard := true, newest := N, addr := s.addr, eis := true, stamp := (a : Int) }) 9 (.int .i64 (a : Int)) rfl rfl rfl
          have LB : LkV (((wt.setCell ⟨p, 57, none⟩ (.bool true)).setCell ⟨p, 58, none⟩ (.int .i64 (a : Int))).setCell ⟨p, 59, none⟩ (.int .i64 now)) p { s with heard := true, newest := N, addr := s.addr, eis := true, stamp := (a : Int), eat := now } := LB1.put 10 (.int .i64 now) rfl rfl rfl
          have cd : wt.cell? ⟨p, 49, none⟩ = some (.bool false) := by have h := (LT.out).cell 0 (v := .bool s.down) rfl; rw [hd] at h; exact h
          have KA := (KT.out).fr1 fA NE.out
          have k2 := KA.cell 2 rfl
          have c57 : World.cell? wt ⟨p, 57, none⟩ = some (.bool s.eis) := LA.cell 8 rfl
          have c58 : World.cell? wt ⟨p, 58, none⟩ = some (.int .i64 s.stamp) := LA.cell 9 rfl
          have c59 : World.cell? wt ⟨p, 59, none⟩ = some (.int .i64 s.eat) := LA.cell 10 rfl
          have f57 := LA.free 57
          have f58 := LA.free 58
          have f59 := LA.free 59
          have KB := Lib.hid (KA.fr1 fB NE.out)
          have k3 := (KB.out).cell 3 rfl
          have OA := own_fr OT.out fA (fun g hg e => own_ne OT.out (LT.out).blk (by decide) g hg e)
          have OB := Lib.hid (own_fr OA fB (fun g hg e => own_ne OA LA.blk (by decide) g hg e))
          have FB := Lib.hid (Fr1.trans (Fr1.trans FT.out fA) fB)
          have k4 := (KB.out).cell 4 rfl
          have HEQ := Lib.hid (show hearLk s now frm N a a2 = { s with heard := true, newest := N, addr := s.addr, eis := true, stamp := (a : Int), eat := now } by unfold hearLk; rw [HTK.out, if_neg (fun h => h.1 hq), hd]; rfl)
          have LBH := Lib.hid LB
          clear fA LA fB LB0 LB1 LB KA OA LT KT OT FT hd
          go_wp2_with (go_at_call 31; refine (HCL.out _ _ _ (show RdB _ _ _ by have h := Rd.of_own OB.out; unfold RdB; rw [HND.out] at h ⊢; exact h)).mono ?_; rintro e w8 ⟨A8, c8, rfl, ho, hf⟩; have O8 := Lib.hid (own_baseW ho (Nat.le_trans (FB.out).size (Nat.le_refl _))); have L8 := Lib.hid ((LBH.out).fr0 hf); have F8 := Lib.hid (Fr1.trans FB.out (Fr1.of0 hf)); clear ho hf)
          go_ret3
          exact ⟨_, _, rfl, O8.out, by rw [HEQ.out]; exact L8.out, F8.out⟩
        have tq : ((a2 : Int) != 65535) = true := bne_iff_ne.2 (by omega)
        by_cases hk : tk ≤ 5000
        · have tk1 : decide ((tk : Int) ≤ 5000) = true := decide_eq_true (by omega)
          have HRT := Lib.hid (fun W g hb => HRT0.out W g hk hb)
          have fA : Fr1 p wt wt := Fr1.refl p wt
          have LA : LkV wt p { s with heard := true, newest := N, addr := s.addr } := LT.out
          have fB : Fr1 p wt (((wt.setCell ⟨p, 57, none⟩ (.bool true)).setCell ⟨p, 58, none⟩ (.int .i64 (a : Int))).setCell ⟨p, 59, none⟩ (.int .i64 now)) := (((Fr1.refl p _).set 57 (.bool true)).set 58 (.int .i64 (a : Int))).set 59 (.int .i64 now)
          have LB0 := LA.put (s' := { s with heard := true, newest := N, addr := s.addr, eis := true }) 8 (.bool true) rfl rfl rfl
          have LB1 := LB0.put (s' := { s with heard := true, newest := N, addr := s.addr, eis := true, stamp := (a : Int) }) 9 (.int .i64 (a : Int)) rfl rfl rfl
          have LB : LkV (((wt.setCell ⟨p, 57, none⟩ (.bool true)).setCell ⟨p, 58, none⟩ (.int .i64 (a : Int))).setCell ⟨p, 59, none⟩ (.int .i64 now)) p { s with heard := true, newest := N, addr := s.addr, eis := true, stamp := (a : Int), eat := now } := LB1.put 10 (.int .i64 now) rfl rfl rfl
          have cd : wt.cell? ⟨p, 49, none⟩ = some (.bool false) := by have h := (LT.out).cell 0 (v := .bool s.down) rfl; rw [hd] at h; exact h
          have KA := (KT.out).fr1 fA NE.out
          have k2 := KA.cell 2 rfl
          have c57 : World.cell? wt ⟨p, 57, none⟩ = some (.bool s.eis) := LA.cell 8 rfl
          have c58 : World.cell? wt ⟨p, 58, none⟩ = some (.int .i64 s.stamp) := LA.cell 9 rfl
          have c59 : World.cell? wt ⟨p, 59, none⟩ = some (.int .i64 s.eat) := LA.cell 10 rfl
          have f57 := LA.free 57
          have f58 := LA.free 58
          have f59 := LA.free 59
          have KB := Lib.hid (KA.fr1 fB NE.out)
          have k3 := (KB.out).cell 3 rfl
          have OA := own_fr OT.out fA (fun g hg e => own_ne OT.out (LT.out).blk (by decide) g hg e)
          have OB := Lib.hid (own_fr OA fB (fun g hg e => own_ne OA LA.blk (by decide) g hg e))
          have FB := Lib.hid (Fr1.trans (Fr1.trans FT.out fA) fB)
          have hsz : (World.heap (((wt.setCell ⟨p, 57, none⟩ (.bool true)).setCell ⟨p, 58, none⟩ (.int .i64 (a : Int))).setCell ⟨p, 59, none⟩ (.int .i64 now))).size = wt.heap.size := by simp [World.setCell]
          have c54 : World.cell? (((wt.setCell ⟨p, 57, none⟩ (.bool true)).setCell ⟨p, 58, none⟩ (.int .i64 (a : Int))).setCell ⟨p, 59, none⟩ (.int .i64 now)) ⟨p, 54, none⟩ = some (.int .i64 s.many) := LB.cell 5 rfl
          have c55 : World.cell? (((wt.setCell ⟨p, 57, none⟩ (.bool true)).setCell ⟨p, 58, none⟩ (.int .i64 (a : Int))).setCell ⟨p, 59, none⟩ (.int .i64 now)) ⟨p, 55, none⟩ = some (.int .i64 s.mid) := LB.cell 6 rfl
          have c56 : World.cell? (((wt.setCell ⟨p, 57, none⟩ (.bool true)).setCell ⟨p, 58, none⟩ (.int .i64 (a : Int))).setCell ⟨p, 59, none⟩ (.int .i64 now)) ⟨p, 56, none⟩ = some (.int .i64 s.off) := LB.cell 7 rfl
          have BN0 := Blk.new (((wt.setCell ⟨p, 57, none⟩ (.bool true)).setCell ⟨p, 58, none⟩ (.int .i64 (a : Int))).setCell ⟨p, 59, none⟩ (.int .i64 now)) #[.int .i64 (tk : Int)] 3
          rw [hsz] at BN0
          have BN := Lib.hid BN0
          have HEQ := Lib.hid (show hearLk s now frm N a a2 = { s with heard := true, newest := N, addr := s.addr, eis := true, stamp := (a : Int), eat := now, many := m0, mid := m1, off := m2 } by unfold hearLk; rw [HTK.out, if_pos ⟨hq, hk⟩, hd, ← HM0.out]; rfl)
          have LBH := Lib.hid LB
          clear fA LA fB LB0 LB1 LB KA OA LT KT OT FT hd hsz BN0
          go_wp2_with (first
            | (go_at_call 32; refine (HRT.out _ _ BN.out).mono ?_; rintro e w7 ⟨rfl, hf⟩; have fz := Fr0.trans ((Fr0.refl _).alloc (.cells #[.int .i64 (tk : Int)] 3)) hf; have L7 := (LBH.out).fr0 fz; have K7 := (KB.out).fr0 fz; have O7 := own_fr OB.out fz (fun _ _ h => h); have F7 := Fr1.trans FB.out (Fr1.of0 fz); have d54 : w7.cell? ⟨p, 54, none⟩ = some (.int .i64 s.many) := L7.cell 5 rfl; have d55 : w7.cell? ⟨p, 55, none⟩ = some (.int .i64 s.mid) := L7.cell 6 rfl; have d56 : w7.cell? ⟨p, 56, none⟩ = some (.int .i64 s.off) := L7.cell 7 rfl; have f54 := L7.free 54; have f55 := L7.free 55; have f56 := L7.free 56; have fm := (((Fr1.refl p w7).set 54 (.int .i64 m0)).set 55 (.int .i64 m1)).set 56 (.int .i64 m2); have M0 := L7.put (s' := { s with heard := true, newest := N, addr := s.addr, eis := true, stamp := (a : Int), eat := now, many := m0 }) 5 (.int .i64 m0) rfl rfl rfl; have M1 := M0.put (s' := { s with heard := true, newest := N, addr := s.addr, eis := true, stamp := (a : Int), eat := now, many := m0, mid := m1 }) 6 (.int .i64 m1) rfl rfl rfl; have L9 := Lib.hid (M1.put (s' := { s with heard := true, newest := N, addr := s.addr, eis := true, stamp := (a : Int), eat := now, many := m0, mid := m1, off := m2 }) 7 (.int .i64 m2) rfl rfl rfl); have K9 := K7.fr1 fm NE.out; have k4 := K9.cell 4 rfl; have O9 := Lib.hid (own_fr O7 fm (fun g hg e => own_ne O7 L7.blk (by decide) g hg e)); have F9 := Lib.hid (Fr1.trans F7 fm); clear hf fz L7 K7 O7 F7 fm M0 M1 K9)
            | (go_at_call 31; refine (HCL.out _ _ _ (show RdB _ _ _ by have h := Rd.of_own O9.out; unfold RdB; rw [HND.out] at h ⊢; exact h)).mono ?_; rintro e w8 ⟨A8, c8, rfl, ho, hf⟩; have O8 := Lib.hid (own_baseW ho (Nat.le_trans (F9.out).size (Nat.le_refl _))); have L8 := Lib.hid ((L9.out).fr0 hf); have F8 := Lib.hid (Fr1.trans F9.out (Fr1.of0 hf)); clear ho hf))
          go_ret3
          exact ⟨_, _, rfl, O8.out, by rw [HEQ.out]; exact L8.out, F8.out⟩
        · have tk1 : decide ((tk : Int) ≤ 5000) = false := decide_eq_false (by omega)
          have fA : Fr1 p wt wt := Fr1.refl p wt
          have LA : LkV wt p { s with heard := true, newest := N, addr := s.addr } := LT.out
          have fB : Fr1 p wt (((wt.setCell ⟨p, 57, none⟩ (.bool true)).setCell ⟨p, 58, none⟩ (.int .i64 (a : Int))).setCell ⟨p, 59, none⟩ (.int .i64 now)) := (((Fr1.refl p _).set 57 (.bool true)).set 58 (.int .i64 (a : Int))).set 59 (.int .i64 now)
          have LB0 := LA.put (s' := { s with heard := true, newest := N, addr := s.addr, eis := true }) 8 (.bool true) rfl rfl rfl
          have LB1 := LB0.put (s' := { s with heard := true, newest := N, addr := s.addr, eis := true, stamp := (a : Int) }) 9 (.int .i64 (a : Int)) rfl rfl rfl
          have LB : LkV (((wt.setCell ⟨p, 57, none⟩ (.bool true)).setCell ⟨p, 58, none⟩ (.int .i64 (a : Int))).setCell ⟨p, 59, none⟩ (.int .i64 now)) p { s with heard := true, newest := N, addr := s.addr, eis := true, stamp := (a : Int), eat := now } := LB1.put 10 (.int .i64 now) rfl rfl rfl
          have cd : wt.cell? ⟨p, 49, none⟩ = some (.bool false) := by have h := (LT.out).cell 0 (v := .bool s.down) rfl; rw [hd] at h; exact h
          have KA := (KT.out).fr1 fA NE.out
          have k2 := KA.cell 2 rfl
          have c57 : World.cell? wt ⟨p, 57, none⟩ = some (.bool s.eis) := LA.cell 8 rfl
          have c58 : World.cell? wt ⟨p, 58, none⟩ = some (.int .i64 s.stamp) := LA.cell 9 rfl
          have c59 : World.cell? wt ⟨p, 59, none⟩ = some (.int .i64 s.eat) := LA.cell 10 rfl
          have f57 := LA.free 57
          have f58 := LA.free 58
          have f59 := LA.free 59
          have KB := Lib.hid (KA.fr1 fB NE.out)
          have k3 := (KB.out).cell 3 rfl
          have OA := own_fr OT.out fA (fun g hg e => own_ne OT.out (LT.out).blk (by decide) g hg e)
          have OB := Lib.hid (own_fr OA fB (fun g hg e => own_ne OA LA.blk (by decide) g hg e))
          have FB := Lib.hid (Fr1.trans (Fr1.trans FT.out fA) fB)
          have k4 := (KB.out).cell 4 rfl
          have HEQ := Lib.hid (show hearLk s now frm N a a2 = { s with heard := true, newest := N, addr := s.addr, eis := true, stamp := (a : Int), eat := now } by unfold hearLk; rw [HTK.out, if_neg (fun h => hk h.2), hd]; rfl)
          have LBH := Lib.hid LB
          clear fA LA fB LB0 LB1 LB KA OA LT KT OT FT hd
          go_wp2_with (go_at_call 31; refine (HCL.out _ _ _ (show RdB _ _ _ by have h := Rd.of_own OB.out; unfold RdB; rw [HND.out] at h ⊢; exact h)).mono ?_; rintro e w8 ⟨A8, c8, rfl, ho, hf⟩; have O8 := Lib.hid (own_baseW ho (Nat.le_trans (FB.out).size (Nat.le_refl _))); have L8 := Lib.hid ((LBH.out).fr0 hf); have F8 := Lib.hid (Fr1.trans FB.out (Fr1.of0 hf)); clear ho hf)
          go_ret3
          exact ⟨_, _, rfl, O8.out, by rw [HEQ.out]; exact L8.out, F8.out⟩
end Go.Proofs.Ytgcjbbliaelkcaa
namespace Go.Proofs.Ytgcjbbliaelkcaa

theorem fixVal_formS (n : Nat) : ∀ (k a : Nat), (fixForm n k).foldl (fun n x => n * 256 + x.toNat) a = a * 256 ^ k + n % 256 ^ k
  | 0, a => by simp [fixForm, Nat.mod_one]
  | k + 1, a => by
    rw [fixForm, List.foldl_cons, fixVal_formS n k, u8_of _ (Nat.mod_lt _ (by decide)), Nat.mod_pow_succ, Nat.pow_succ, Nat.add_mul, Nat.mul_assoc, Nat.mul_comm 256 (256 ^ k), Nat.mul_comm (n / 256 ^ k % 256)]
    omega
theorem rFixed_formS (n k : Nat) (h1 : 1 ≤ k) (h8 : k ≤ 8) (r : List UInt8) : rFixed (fixForm n k ++ r) 0 (k : Int) = (n % 256 ^ k, r, 0) := by
  have hs : fStep (fixForm n k ++ r) (k : Int) = (k, 0) := by
    unfold fStep
    rw [if_neg]
    · simp
    · rw [List.length_append, fixForm_len]; omega
  unfold rFixed
  rw [if_neg (by simp), hs, if_neg (by simp), List.take_left' (fixForm_len n k), List.drop_left' (fixForm_len n k)]
  have := fixVal_formS n k 0
  rw [Nat.zero_mul, Nat.zero_add] at this
  rw [fixVal, this]
theorem wdL_head (code : List UInt8) {wd : Nat} (h : wd < 18446744073709551616) (text : List UInt8) : wdL (headL code wd text) = wd := by
  unfold wdL headL
  have h2 := rFixed_formS wd 8 (by decide) (by decide) (tnL code wd text)
  rw [show (8 : Int) = ((8 : Nat) : Int) from rfl, h2]
  exact Nat.mod_eq_of_lt h
theorem pack_take (code mark : List UInt8) (wd : Nat) (text : List UInt8) : (packL code mark wd text).take ((packL code mark wd text).length - 16) = headL code wd text := by
  rw [packL_len, show text.length + 24 - 16 = (headL code wd text).length by rw [headL_len]; omega]
  unfold packL
  rw [List.take_left]
theorem pack_drop (code mark : List UInt8) (wd : Nat) (text : List UInt8) : (packL code mark wd text).drop ((packL code mark wd text).length - 16) = tagL mark (headL code wd text) := by
  rw [packL_len, show text.length + 24 - 16 = (headL code wd text).length by rw [headL_len]; omega]
  unfold packL
  rw [List.drop_left]
theorem openP_pack (code mark : List UInt8) {dn : Bool} {n : Nat} {text : List UInt8} (hn : n < 9223372036854775808) (hl : text.length ≤ 1200) :
    openP code mark (packL code mark (wordL dn n) text) = ((dn, n), text, 0) := by
  have hw := word_lt dn hn
  unfold openP
  rw [if_neg (by rw [packL_len]; omega), pack_take, pack_drop, if_pos rfl, wdL_head code hw, ofD_word dn hn, ofN_word dn hn]
  rw [show (headL code (wordL dn n) text).drop 8 = tnL code (wordL dn n) text by unfold headL; rw [List.drop_left' (fixForm_len _ 8)], tnL_tnL]
theorem sealP_good (code mark : List UInt8) {dn : Bool} {n : Nat} {text : List UInt8} (hn : n < 9223372036854775808) (hl : text.length ≤ 1200) : sealP code mark dn n text = (packL code mark (wordL dn n) text, 0) := by
  unfold sealP; rw [if_neg (by omega), if_neg (by omega)]
end Go.Proofs.Ytgcjbbliaelkcaa
set_option linter.unusedSimpArgs false
set_option linter.unusedVariables false
namespace Go.Proofs.Ytgcjbbliaelkcaa
open Go.RowKit

theorem lk_r1 {x y : Nat} (hx : x < 65536) (text : List UInt8) : lkR1 (fixForm x 2 ++ fixForm y 2 ++ text) = (x, fixForm y 2 ++ text, 0) := by
  unfold lkR1
  rw [List.append_assoc, show (2 : Int) = ((2 : Nat) : Int) from rfl, rFixed_formS x 2 (by decide) (by decide), Nat.mod_eq_of_lt (by omega)]
theorem lk_r2 {x y : Nat} (hx : x < 65536) (hy : y < 65536) (text : List UInt8) : lkR2 (fixForm x 2 ++ fixForm y 2 ++ text) = (y, text, 0) := by
  unfold lkR2
  rw [lk_r1 hx]
  rw [show (2 : Int) = ((2 : Nat) : Int) from rfl, rFixed_formS y 2 (by decide) (by decide), Nat.mod_eq_of_lt (by omega)]
/-- A packet of a link: direction, number, stamp, echo, text. -/
def pkL (code mark : List UInt8) (d : Bool) (n x y : Nat) (text : List UInt8) : List UInt8 := packL code mark (wordL d n) (fixForm x 2 ++ fixForm y 2 ++ text)
theorem pkL_len (code mark : List UInt8) (d : Bool) (n x y : Nat) (text : List UInt8) : (pkL code mark d n x y text).length = text.length + 28 := by
  unfold pkL; rw [packL_len, List.length_append, List.length_append, fixForm_len, fixForm_len]; omega
theorem pkL_open (code mark : List UInt8) {d : Bool} {n x y : Nat} {text : List UInt8} (hn : n < 9223372036854775808) (hl : text.length ≤ 1196) : openP code mark (pkL code mark d n x y text) = ((d, n), fixForm x 2 ++ fixForm y 2 ++ text, 0) := by
  unfold pkL
  exact openP_pack code mark hn (by rw [List.length_append, List.length_append, fixForm_len, fixForm_len]; omega)
/-- What Send sends. -/
theorem sent_pk (code mark : List UInt8) (s : Lk) (now : Int) (text : List UInt8) : packL code mark (wordL s.down s.next) (sendT s now ++ text) = pkL code mark s.down s.next (now % 65535).toNat (echoV s now).toNat text := rfl
section
variable {p : Nat} {s : Lk} {w : World} {now frm : Int} {code mark text : List UInt8} {v : Value} {d : Bool} {n x y : Nat}
theorem hear_way (h : LkV w p s) (hm : s.made = true) (hok : hearOk now frm) (hkey : s.key = code ++ mark) (hc : code.length = 16) (hmk : mark.length = 32) (hb : RdB w v (pkL code mark d n x y text)) (hn : n < 9223372036854775808) (hl : text.length ≤ 1196) (hd : d = s.down) :
    Calls Try.prog 11 #[.pointer (some ⟨p, 0, none⟩), .int .i64 now, .int .i64 frm, v] w fun e w' => e = .returned (.tuple #[.slice none 0 0, .bool false, .int .i64 90]) ∧ Fr0 w w' := by
  have he : lkErr s.down (openP code mark (pkL code mark d n x y text)) = 90 := by
    rw [pkL_open code mark hn hl]; unfold lkErr; rw [if_neg (by simp), if_pos hd]
  have h2 := hear_err h hm hok hkey hc hmk hb (by rw [he]; decide)
  rw [he] at h2
  exact h2
theorem pk_ok (hn : n < 9223372036854775808) (hl : text.length ≤ 1196) (hx : x < 65535) (hy : y < 65536) (hd : d ≠ s.down) : lkErr s.down (openP code mark (pkL code mark d n x y text)) = 0 := by
  rw [pkL_open code mark hn hl]; unfold lkErr
  rw [if_neg (by simp), if_neg hd]
  simp only []
  rw [lk_r1 (by omega), lk_r2 (by omega) hy, if_neg (by simp; omega)]
theorem hear_again (h : LkV w p s) (hm : s.made = true) (hok : hearOk now frm) (hkey : s.key = code ++ mark) (hc : code.length = 16) (hmk : mark.length = 32) (hb : RdB w v (pkL code mark d n x y text)) (hn : n < 9223372036854775808) (hl : text.length ≤ 1196) (hx : x < 65535) (hy : y < 65536) (hd : d ≠ s.down) (hold : s.heard = true ∧ n ≤ s.newest) :
    Calls Try.prog 11 #[.pointer (some ⟨p, 0, none⟩), .int .i64 now, .int .i64 frm, v] w fun e w' => ∃ A c, e = .returned (.tuple #[.slice A text.length c, .bool false, .int .i64 0]) ∧ w'.ownsRow w.heap.size 5 1 (.slice A text.length c) text.length (byts text) ∧ Fr0 w w' := by
  have he := pk_ok (s := s) (code := code) (mark := mark) hn hl hx hy hd
  have ho := pkL_open code mark (d := d) (x := x) (y := y) hn hl
  have h2 := hear_old h hm hok hkey hc hmk hb he (by rw [ho]; exact hold) (by rw [ho]; simp only []; rw [lk_r2 (by omega) hy]; simp only []; omega)
  rw [ho] at h2
  simp only [] at h2
  rw [lk_r2 (by omega) hy] at h2
  exact h2
theorem hear_fresh (h : LkV w p s) (hm : s.made = true) (hok : hearOk now frm) (hkey : s.key = code ++ mark) (hc : code.length = 16) (hmk : mark.length = 32) (hb : RdB w v (pkL code mark d n x y text)) (hn : n < 9223372036854775808) (hl : text.length ≤ 1196) (hx : x < 65535) (hy : y < 65536) (hd : d ≠ s.down) (hnew : ¬ (s.heard = true ∧ n ≤ s.newest)) (hmt : mayM s.many s.mid s.off) :
    Calls Try.prog 11 #[.pointer (some ⟨p, 0, none⟩), .int .i64 now, .int .i64 frm, v] w fun e w' => ∃ A c, e = .returned (.tuple #[.slice A text.length c, .bool true, .int .i64 0]) ∧ w'.ownsRow w.heap.size 5 1 (.slice A text.length c) text.length (byts text) ∧ LkV w' p (hearLk s now frm n x y) ∧ Fr1 p w w' := by
  have he := pk_ok (s := s) (code := code) (mark := mark) hn hl hx hy hd
  have ho := pkL_open code mark (d := d) (x := x) (y := y) hn hl
  exact hear_new (N := n) (a := x) (a2 := y) (R := text) h hm hok hkey hc hmk hb he (by rw [ho]; exact hnew) (by rw [ho]) (by rw [ho]; simp only []; rw [lk_r1 (by omega)]) (by rw [ho]; simp only []; rw [lk_r2 (by omega) hy]) (by rw [ho]; simp only []; rw [lk_r2 (by omega) hy]) (by omega) hy hmt
end
end Go.Proofs.Ytgcjbbliaelkcaa
set_option linter.unusedSimpArgs false
set_option linter.unusedVariables false
namespace Go.Proofs.Ytgcjbbliaelkcaa
open Go.RowKit

/-- Bytes of some call's own, n of them. -/
def OwN (w : World) (v : Value) (n : Nat) (d : List UInt8) : Prop := ∃ b, w.ownsRow b 5 1 v n (byts d)
theorem OwN.fr0 {w w' : World} {v : Value} {n : Nat} {d : List UInt8} (h : OwN w v n d) (hf : Fr0 w w') : OwN w' v n d := by obtain ⟨b, h⟩ := h; exact ⟨b, own_fr h hf (fun _ _ h => h)⟩
theorem OwN.link {w w' : World} {v : Value} {n : Nat} {d : List UInt8} {p : Nat} {s : Lk} (h : OwN w v n d) (hl : LkV w p s) (hf : Fr1 p w w') : OwN w' v n d := by obtain ⟨b, h⟩ := h; exact ⟨b, own_fr h hf (fun g hg e => own_ne h hl.blk (by decide) g hg e)⟩
theorem OwN.rd {w : World} {v : Value} {n : Nat} {d : List UInt8} (h : OwN w v n d) : RdB w v d := by obtain ⟨b, h⟩ := h; exact RdB.of_own h
section
variable {p : Nat} {s : Lk} {w : World} {now frm : Int} {code mark text : List UInt8} {v : Value} {d : Bool} {n x y : Nat}
/-- Send, in short. -/
theorem send_pk (h : LkV w p s) (hm : s.made = true) (ht : RdB w v text) (hkey : s.key = code ++ mark) (hc : code.length = 16) (hmk : mark.length = 32)
    (hnow : 0 ≤ now ∧ now ≤ 1099511627776) (hl : text.length ≤ 1196) (hn : s.next < 9223372036854775808) (hst : 0 ≤ s.stamp ∧ s.stamp ≤ 65535) (het : 0 ≤ s.eat ∧ s.eat ≤ 1099511627776) :
    Calls Try.prog 10 #[.pointer (some ⟨p, 0, none⟩), .int .i64 now, v] w fun e w' => ∃ A c, e = .returned (.tuple #[.slice A (text.length + 28) c, .int .i64 0]) ∧ OwN w' (.slice A (text.length + 28) c) (text.length + 28) (pkL code mark s.down s.next (now % 65535).toNat (echoV s now).toNat text) ∧ LkV w' p (sentLk s) ∧ Fr1 p w w' :=
  (send_good h hm ht hkey hc hmk hnow hl hn hst het).mono (by
    rintro e w' ⟨A, c, rfl, ho, hL, hf⟩
    exact ⟨A, c, rfl, ⟨_, ho⟩, hL, hf⟩)
end
def z16L : List UInt8 := List.replicate 16 0
def z32L : List UInt8 := List.replicate 32 0
def u0 : Lk := newLk (z16L ++ z32L) false 0 9
def u1 : Lk := sentLk u0
def d0 : Lk := newLk (z16L ++ z32L) true 0 5
def d1 : Lk := hearLk d0 140 7 0 100 65535
def d2 : Lk := sentLk d1
def u2 : Lk := hearLk u1 190 0 0 160 120
def pa : List UInt8 := pkL z16L z32L false 0 100 65535 [97, 98]
def pb : List UInt8 := pkL z16L z32L true 0 160 120 []
def zKey : Array Value := (byts (z16L ++ z32L)).toArray
theorem zkey_built : Try.prog.built 25 [] = some zKey := by kernel_rfl
theorem kn1 (W : World) : Calls Try.prog 9 #[.agg zKey, .bool false, .int .u64 0, .int .i64 9] W fun e w' => ∃ p, e = .returned (.tuple #[.pointer (some ⟨p, 0, none⟩), .int .i64 0]) ∧ LkV w' p u0 ∧ W.heap.size ≤ p ∧ Fr0 W w' := lnew_good (n := 0) rfl (by decide) (by decide)
theorem kn2 (W : World) : Calls Try.prog 9 #[.agg zKey, .bool true, .int .u64 0, .int .i64 5] W fun e w' => ∃ p, e = .returned (.tuple #[.pointer (some ⟨p, 0, none⟩), .int .i64 0]) ∧ LkV w' p d0 ∧ W.heap.size ≤ p ∧ Fr0 W w' := lnew_good (n := 0) rfl (by decide) (by decide)
theorem ks1 {W : World} {p : Nat} {v : Value} (h : LkV W p u0) (ht : RdB W v [97, 98]) : Calls Try.prog 10 #[.pointer (some ⟨p, 0, none⟩), .int .i64 100, v] W fun e w' => ∃ A c, e = .returned (.tuple #[.slice A 30 c, .int .i64 0]) ∧ OwN w' (.slice A 30 c) 30 pa ∧ LkV w' p u1 ∧ Fr1 p W w' := by
  have h2 := send_pk (text := [97, 98]) (code := z16L) (mark := z32L) (now := 100) h rfl ht rfl rfl rfl (by decide) (by decide) (by decide) (by decide) (by decide)
  rw [show (echoV u0 100).toNat = 65535 from by decide, show ((100 : Int) % 65535).toNat = 100 from by decide, show u0.down = false from rfl, show u0.next = 0 from rfl] at h2
  unfold pa u1
  exact h2
theorem ks2 {W : World} {p : Nat} (h : LkV W p d1) : Calls Try.prog 10 #[.pointer (some ⟨p, 0, none⟩), .int .i64 160, .slice none 0 0] W fun e w' => ∃ A c, e = .returned (.tuple #[.slice A 28 c, .int .i64 0]) ∧ OwN w' (.slice A 28 c) 28 pb ∧ LkV w' p d2 ∧ Fr1 p W w' := by
  have h2 := send_pk (text := []) (code := z16L) (mark := z32L) (now := 160) h rfl (RdB.nil W) rfl rfl rfl (by decide) (by decide) (by decide) (by decide) (by decide)
  rw [show (echoV d1 160).toNat = 120 from by decide, show ((160 : Int) % 65535).toNat = 160 from by decide, show d1.down = true from rfl, show d1.next = 0 from rfl] at h2
  unfold pb d2
  exact h2
theorem kh1 {W : World} {p : Nat} {v : Value} (h : LkV W p d0) (hb : RdB W v pa) : Calls Try.prog 11 #[.pointer (some ⟨p, 0, none⟩), .int .i64 140, .int .i64 7, v] W fun e w' => ∃ A c, e = .returned (.tuple #[.slice A 2 c, .bool true, .int .i64 0]) ∧ OwN w' (.slice A 2 c) 2 [97, 98] ∧ LkV w' p d1 ∧ Fr1 p W w' :=
  (hear_fresh (text := [97, 98]) (code := z16L) (mark := z32L) (d := false) (n := 0) (x := 100) (y := 65535) h rfl ⟨by decide, by decide⟩ rfl rfl rfl hb (by decide) (by decide) (by decide) (by decide) (by decide) (by decide) (by unfold mayM; decide)).mono (by rintro e w' ⟨A, c, rfl, ho, hL, hf⟩; exact ⟨A, c, rfl, ⟨_, ho⟩, hL, hf⟩)
theorem kh2 {W : World} {p : Nat} {v : Value} (h : LkV W p d1) (hb : RdB W v pa) : Calls Try.prog 11 #[.pointer (some ⟨p, 0, none⟩), .int .i64 150, .int .i64 8, v] W fun e w' => ∃ A c, e = .returned (.tuple #[.slice A 2 c, .bool false, .int .i64 0]) ∧ OwN w' (.slice A 2 c) 2 [97, 98] ∧ Fr0 W w' :=
  (hear_again (text := [97, 98]) (code := z16L) (mark := z32L) (d := false) (n := 0) (x := 100) (y := 65535) h rfl ⟨by decide, by decide⟩ rfl rfl rfl hb (by decide) (by decide) (by decide) (by decide) (by decide) (by decide)).mono (by rintro e w' ⟨A, c, rfl, ho, hf⟩; exact ⟨A, c, rfl, ⟨_, ho⟩, hf⟩)
theorem kh3 {W : World} {p : Nat} {v : Value} (h : LkV W p u1) (hb : RdB W v pb) : Calls Try.prog 11 #[.pointer (some ⟨p, 0, none⟩), .int .i64 190, .int .i64 0, v] W fun e w' => ∃ A c, e = .returned (.tuple #[.slice A 0 c, .bool true, .int .i64 0]) ∧ LkV w' p u2 ∧ Fr1 p W w' :=
  (hear_fresh (text := []) (code := z16L) (mark := z32L) (d := true) (n := 0) (x := 160) (y := 120) h rfl ⟨by decide, by decide⟩ rfl rfl rfl hb (by decide) (by decide) (by decide) (by decide) (by decide) (by decide) (by unfold mayM; decide)).mono (by rintro e w' ⟨A, c, rfl, ho, hL, hf⟩; exact ⟨A, c, rfl, hL, hf⟩)
theorem kh4 {W : World} {p : Nat} {v : Value} (h : LkV W p u2) (hb : RdB W v pa) : Calls Try.prog 11 #[.pointer (some ⟨p, 0, none⟩), .int .i64 190, .int .i64 0, v] W fun e w' => e = .returned (.tuple #[.slice none 0 0, .bool false, .int .i64 90]) ∧ Fr0 W w' :=
  hear_way (text := [97, 98]) (code := z16L) (mark := z32L) (d := false) (n := 0) (x := 100) (y := 65535) h rfl ⟨by decide, by decide⟩ rfl rfl rfl hb (by decide) (by decide) rfl
theorem ka {W : World} {p : Nat} (h : LkV W p d2) : Calls Try.prog 21 #[.pointer (some ⟨p, 0, none⟩)] W fun e w' => e = .returned (.int .i64 7) ∧ Fr0 W w' := laddr_any h rfl
theorem km {W : World} {p : Nat} (h : LkV W p u2) : Calls Try.prog 22 #[.pointer (some ⟨p, 0, none⟩)] W fun e w' => e = .returned (.agg #[.int .i64 1, .int .i64 560, .int .i64 140]) ∧ Fr0 W w' := lmeter_any h rfl
set_option maxHeartbeats 4000000 in
set_option maxRecDepth 100000 in
theorem known09_any (w : World) : Calls Try.prog 8 #[] w fun e w' => e = .returned (.bool true) ∧ Fr0 w w' := by
  have hcv := fun (w : World) (C : Array Value) (n c : Nat) => Lib.run_convert_bytes_const (P := Try.prog) w 32 5 C n c Try.underlying32 Try.underlying5
  have H1 := Lib.hid kn1
  have H2 := Lib.hid kn2
  have HS1 := Lib.hid (fun W p v (h : LkV W p u0) ht => ks1 (v := v) h ht)
  have HS2 := Lib.hid (fun W p (h : LkV W p d1) => ks2 h)
  have HH1 := Lib.hid (fun W p v (h : LkV W p d0) hb => kh1 (v := v) h hb)
  have HH2 := Lib.hid (fun W p v (h : LkV W p d1) hb => kh2 (v := v) h hb)
  have HH3 := Lib.hid (fun W p v (h : LkV W p u1) hb => kh3 (v := v) h hb)
  have HH4 := Lib.hid (fun W p v (h : LkV W p u2) hb => kh4 (v := v) h hb)
  have HA := Lib.hid (fun W p (h : LkV W p d2) => ka h)
  have HM := Lib.hid (fun W p (h : LkV W p u2) => km h)
  have HZB := Lib.hid zkey_built
  obtain ⟨z, hz⟩ : ∃ z, z = zKey := ⟨_, rfl⟩
  rw [← hz] at H1 H2 HZB
  obtain ⟨a, ha⟩ : ∃ z, z = pa := ⟨_, rfl⟩
  obtain ⟨b, hb⟩ : ∃ z, z = pb := ⟨_, rfl⟩
  rw [← ha] at HS1 HH1 HH2 HH4
  rw [← hb] at HS2 HH3
  obtain ⟨s0, hs0⟩ : ∃ z, z = u0 := ⟨_, rfl⟩
  obtain ⟨s1, hs1⟩ : ∃ z, z = u1 := ⟨_, rfl⟩
  obtain ⟨s2, hs2⟩ : ∃ z, z = u2 := ⟨_, rfl⟩
  obtain ⟨t0, ht0⟩ : ∃ z, z = d0 := ⟨_, rfl⟩
  obtain ⟨t1, ht1⟩ : ∃ z, z = d1 := ⟨_, rfl⟩
  obtain ⟨t2, ht2⟩ : ∃ z, z = d2 := ⟨_, rfl⟩
  rw [← hs0] at H1 HS1
  rw [← hs1] at HS1 HH3
  rw [← hs2] at HH3 HH4 HM
  rw [← ht0] at H2 HH1
  rw [← ht1] at HH1 HH2 HS2
  rw [← ht2] at HS2 HA
  have qs : ((str [97, 98]).toList == [97, 98]) = true := by rw [ByteArray.toList_eq]; rfl
  clear hz ha hb hs0 hs1 hs2 ht0 ht1 ht2
  go_enter Try.func8, Try.ntmps8
  go_wp2_with (first
    | (have _q := F9; go_at_call 22; refine (HM.out _ _ U9.out).mono ?_; rintro e wz ⟨rfl, hf⟩; have FZ := Lib.hid (Fr0.trans F9.out hf); clear hf)
    | (have _q := F8; go_at_call 21; refine (HA.out _ _ D8.out).mono ?_; rintro e w9 ⟨rfl, hf⟩; have F9 := Lib.hid (Fr0.trans F8.out hf); have U9 := Lib.hid ((U8.out).fr0 hf); clear hf)
    | (have _q := F7; go_at_call 11; refine (HH4.out _ _ _ U7.out (A7.out).rd).mono ?_; rintro e w8 ⟨rfl, hf⟩; have F8 := Lib.hid (Fr0.trans F7.out hf); have U8 := Lib.hid ((U7.out).fr0 hf); have D8 := Lib.hid ((D7.out).fr0 hf); have cs1 := conv_ownN (n := 2) rfl (((X7.out).fr0 hf).rd); have cs2 := conv_ownN (n := 2) rfl (((Y7.out).fr0 hf).rd); clear hf)
    | (have _q := B6; go_at_call 11; refine (HH3.out _ _ _ U6.out (B6.out).rd).mono ?_; rintro e w7 ⟨Az, cz, rfl, hL, hf⟩; have F7 := Lib.hid (Fr0.new F6.out hf LU.out); have A7 := Lib.hid ((A6.out).link U6.out hf); have X7 := Lib.hid ((X6.out).link U6.out hf); have Y7 := Lib.hid ((Y6.out).link U6.out hf); have D7 := Lib.hid ((D6.out).fr1 hf (fun e => NE.out e.symm)); have U7 := Lib.hid hL; clear hL hf)
    | (have _q := Y5; go_at_call 10; refine (HS2.out _ _ D5.out).mono ?_; rintro e w6 ⟨A6', c6, rfl, ho, hL, hf⟩; have F6 := Lib.hid (Fr0.new F5.out hf LD.out); have A6 := Lib.hid ((A5.out).link D5.out hf); have X6 := Lib.hid ((X5.out).link D5.out hf); have Y6 := Lib.hid ((Y5.out).link D5.out hf); have U6 := Lib.hid ((U5.out).fr1 hf NE.out); have D6 := Lib.hid hL; have B6 := Lib.hid ho; clear hL hf ho)
    | (have _q := X4; go_at_call 11; refine (HH2.out _ _ _ D4.out (A4.out).rd).mono ?_; rintro e w5 ⟨A5', c5, rfl, ho, hf⟩; have F5 := Lib.hid (Fr0.trans F4.out hf); have A5 := Lib.hid ((A4.out).fr0 hf); have X5 := Lib.hid ((X4.out).fr0 hf); have U5 := Lib.hid ((U4.out).fr0 hf); have D5 := Lib.hid ((D4.out).fr0 hf); have Y5 := Lib.hid ho; clear hf ho)
    | (have _q := A3; go_at_call 11; refine (HH1.out _ _ _ D3.out (A3.out).rd).mono ?_; rintro e w4 ⟨A4', c4, rfl, ho, hL, hf⟩; have F4 := Lib.hid (Fr0.new F3.out hf LD.out); have A4 := Lib.hid ((A3.out).link D3.out hf); have U4 := Lib.hid ((U3.out).fr1 hf NE.out); have D4 := Lib.hid hL; have X4 := Lib.hid ho; clear hL hf ho)
    | (have _q := D2; go_at_call 10; refine (HS1.out _ _ _ ((U2.out).fr0 ((Fr0.refl w2).alloc (.cells #[.int .u8 97, .int .u8 98] 5 (2, 3)))) (lit_bytes w2 5 [97, 98] (by decide) (2, 3))).mono ?_; rintro e w3 ⟨A3', c3, rfl, ho, hL, hf⟩; have F3 := Lib.hid (Fr0.new ((F2.out).alloc (.cells #[.int .u8 97, .int .u8 98] 5 (2, 3))) hf LU.out); have D3 := Lib.hid (((D2.out).fr0 ((Fr0.refl w2).alloc (.cells #[.int .u8 97, .int .u8 98] 5 (2, 3)))).fr1 hf (fun e => NE.out e.symm)); have U3 := Lib.hid hL; have A3 := Lib.hid ho; clear hL hf ho)
    | (have _q := U1; go_at_call 9; refine (H2.out _).mono ?_; rintro e w2 ⟨pd, rfl, hL, hl, hf⟩; have F2 := Lib.hid (Fr0.trans F1.out hf); have U2 := Lib.hid ((U1.out).fr0 hf); have NE := Lib.hid (show pu ≠ pd from by have := (U1.out).lt; omega); have LD := Lib.hid (Nat.le_trans (F1.out).size hl); have D2 := Lib.hid hL; clear hL hl hf)
    | (go_at_call 9; refine (H1.out _).mono ?_; rintro e w1 ⟨pu, rfl, hL, hl, hf⟩; have F1 := Lib.hid hf; have U1 := Lib.hid hL; have LU := Lib.hid hl; clear hL hl hf)
    | (refine list_build rfl 25 _ rfl z (by simp [Act.eval, Act.put]; exact HZB.out) ?_))
  go_ret
  exact ⟨rfl, FZ.out⟩
end Go.Proofs.Ytgcjbbliaelkcaa
set_option linter.unusedSimpArgs false
set_option linter.unusedVariables false
set_option linter.constructorNameAsVariable false
namespace Go.Proofs.Ytgcjbbliaelkcaa
open Go.RowKit Go.ChangeShapes Go.WideShapes Go.ChangeAt

section
variable {H : Type} {enc : TypeId × Value → H} {w : World} {base : Nat} {spare : Nat → Bool} {held : Bool}
set_option maxRecDepth 100000 in
theorem arg_nonce {b0 : Nat} {r : Reach} {v : Value} {d : DataW H} {ps : List MemPlace} (hv : Value.okWide Try.prog w r b0 41 v) (h : DataW.Trod enc Try.prog w base spare held 41 v d ps) : ∃ (dn : Bool) (n : Nat), v = nonceV dn n ∧ n < 18446744073709551616 := by
  obtain ⟨cs, rfl, _⟩ := okWide_struct Try.underlying41 hv
  obtain ⟨fuel, hf0⟩ := h
  have hf : DataW.trod enc Try.prog w base spare held fuel 41 cs.toList = some (d, ps) := hf0
  obtain ⟨hl, hr⟩ := read_fields (k := 2) Try.underlying41 (by kernel_rfl) (by kernel_rfl) hf
  have hcs : cs = cs.toList.toArray := by simp
  obtain ⟨l, e⟩ : ∃ l, l = cs.toList := ⟨_, rfl⟩
  rw [← e] at hcs
  have hl' : l.length = 2 := by rw [e]; exact hl
  match l, hl' with
  | [a, b], _ =>
    have hg : ∀ j (hj : j < 2), cs.toList[j]'(by rw [← e]; simpa using hj) = [a, b][j]'(by simpa using hj) := fun j hj => by simp [← e]
    obtain ⟨m, y, hy⟩ := hr 0 (by rw [← e]; simp) _ rfl
    rw [hg 0 (by omega)] at hy
    obtain ⟨z0, h0⟩ := read_bool Try.underlying4 hy
    obtain ⟨m, y, hy⟩ := hr 1 (by rw [← e]; simp) _ rfl
    rw [hg 1 (by omega)] at hy
    obtain ⟨q, hq, _, hw⟩ := DataW.trod_int Try.underlying31 hy
    obtain ⟨n, rfl, hn⟩ := lit_u64 hw
    simp only [List.getElem_cons_zero, List.getElem_cons_succ, List.cons.injEq, and_true] at h0 hq
    exact ⟨z0, n, by rw [hcs, h0, hq]; rfl, hn⟩
end
end Go.Proofs.Ytgcjbbliaelkcaa
set_option linter.unusedSimpArgs false
set_option linter.unusedVariables false
set_option linter.constructorNameAsVariable false
namespace Go.Proofs.Ytgcjbbliaelkcaa
open Go.RowKit Go.ChangeShapes Go.WideShapes Go.ChangeAt

section
variable {H : Type} {enc : TypeId × Value → H} {w : World} {base : Nat} {spare : Nat → Bool} {held : Bool}
set_option maxRecDepth 100000 in
theorem arr_bytes {t : TypeId} {n fuel : Nat} {cs : List Value} {x : DataW H × List MemPlace} (ht : Try.prog.underlying t = some (.array n 5)) (hn : Try.prog.cellsOf t = n) (h : DataW.trod enc Try.prog w base spare held fuel t cs = some x) : ∃ d : List UInt8, cs = byts d ∧ d.length = n := by
  obtain ⟨zs, h1, h2, h3⟩ := arr_ints ht Try.underlying5 (by kernel_rfl) hn h
  obtain ⟨d, hd, hl⟩ := bytes_of_ints h3
  refine ⟨d, ?_, by rw [hl, h2]⟩
  rw [h1]
  have := congrArg Array.toList hd
  simpa [iArr] using this
set_option maxRecDepth 100000 in
theorem arg_key {b0 : Nat} {r : Reach} {v : Value} {d : DataW H} {ps : List MemPlace} (hv : Value.okWide Try.prog w r b0 25 v) (h : DataW.Trod enc Try.prog w base spare held 25 v d ps) : ∃ code mark : List UInt8, v = .agg (byts (code ++ mark)).toArray ∧ code.length = 16 ∧ mark.length = 32 := by
  obtain ⟨cs, rfl, _⟩ := okWide_struct Try.underlying25 hv
  obtain ⟨fuel, hf0⟩ := h
  have hf : DataW.trod enc Try.prog w base spare held fuel 25 cs.toList = some (d, ps) := hf0
  obtain ⟨y0, y1, n, -, hl, h0, h1⟩ := trod_struct2 Try.underlying25 hf
  obtain ⟨code, e0, l0⟩ := arr_bytes Try.underlying22 (by kernel_rfl) h0
  obtain ⟨mark, e1, l1⟩ := arr_bytes Try.underlying23 (by kernel_rfl) h1
  refine ⟨code, mark, ?_, l0, l1⟩
  have hl2 : cs.toList.length = 48 := hl.trans (by kernel_rfl)
  have e0' : cs.toList.take 16 = byts code := e0
  have e1' : (cs.toList.drop 16).take 32 = byts mark := e1
  rw [List.take_of_length_le (by rw [List.length_drop]; omega)] at e1'
  have hcs : cs = cs.toList.toArray := by simp
  rw [hcs, ← List.take_append_drop 16 cs.toList, e0', e1']
  simp [byts]
end
end Go.Proofs.Ytgcjbbliaelkcaa
