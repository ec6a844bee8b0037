/- Contracts of package into at texts. Conditions stand in each statement. -/
import Derived.Test.YtbfamnfhnjgllaaRows
import Derived.Test.YtbfamnfhnjgllaaBase
import Derived.Test.YtbfamnfhnjgllaaInstr
import Derived.Test.YtbfamnfhnjgllaaBytes
import Derived.WalkKit
import Derived.WalkSpells
import Derived.BigQuiet
import Derived.Deep.QuietTactic
import Derived.Lib.Hide
import Derived.Handy
import Derived.KernelRfl
namespace Go.Proofs.Ytbfamnfhnjgllaa
open Go.RowKit

/-- The cells of what is held. -/
def hcells (l : List (Int × ByteArray)) : List Value := l.flatMap fun x => [.int .i64 x.1, .string x.2]
theorem hcells_len (l : List (Int × ByteArray)) : (hcells l).length = l.length * 2 := by
  induction l with
  | nil => rfl
  | cons x r ih => simp [hcells] at *; omega
theorem hcells_at (l : List (Int × ByteArray)) (i : Nat) (hi : i < l.length) : (hcells l)[i * 2]? = some (.int .i64 l[i].1) ∧ (hcells l)[i * 2 + 1]? = some (.string l[i].2) := by
  induction l generalizing i with
  | nil => simp at hi
  | cons x r ih =>
    cases i with
    | zero => simp [hcells]
    | succ i =>
      have := ih i (by simpa using hi)
      simp only [hcells, List.flatMap_cons, List.getElem_cons_succ] at *
      constructor
      · rw [show (i + 1) * 2 = (i * 2) + 2 from by omega]; simpa using this.1
      · rw [show (i + 1) * 2 + 1 = (i * 2 + 1) + 2 from by omega]; simpa using this.2
theorem hcells_take (l : List (Int × ByteArray)) (k : Nat) : (hcells l).take (k * 2) = hcells (l.take k) := by
  induction l generalizing k with
  | nil => simp [hcells]
  | cons x r ih =>
    cases k with
    | zero => simp [hcells]
    | succ k =>
      have := ih k
      simp only [hcells, List.flatMap_cons, List.take_succ_cons] at *
      rw [show (k + 1) * 2 = (k * 2) + 2 from by omega]
      simp [this]
theorem hcells_drop (l : List (Int × ByteArray)) (k : Nat) : (hcells l).drop (k * 2) = hcells (l.drop k) := by
  induction l generalizing k with
  | nil => simp [hcells]
  | cons x r ih =>
    cases k with
    | zero => simp [hcells]
    | succ k =>
      have := ih k
      simp only [hcells, List.flatMap_cons, List.drop_succ_cons] at *
      rw [show (k + 1) * 2 = (k * 2) + 2 from by omega]
      simpa using this
theorem hcells_app (l m : List (Int × ByteArray)) : hcells (l ++ m) = hcells l ++ hcells m := by simp [hcells]

/-- A hearer in memory: its function and what it holds. -/
structure InAt (w : World) (p : Nat) (fv sv : Value) (l : List (Int × ByteArray)) : Prop where
  blk : Blk w p #[fv, sv] 48
  rd : Rd w 2 sv l.length (hcells l)
  ty : TyB w sv 66

theorem InAt.fr0 {w w' : World} {p : Nat} {fv sv : Value} {l : List (Int × ByteArray)} (h : InAt w p fv sv l) (hf : Fr0 w w') : InAt w' p fv sv l := ⟨h.blk.fr0 hf, h.rd.fr0 hf, h.ty.fr0 hf⟩
theorem InAt.fr1 {w w' : World} {p b : Nat} {fv sv : Value} {l : List (Int × ByteArray)} {vs : Array Value} {t' : TypeId} (h : InAt w p fv sv l) (hf : Fr1 b w w') (hb : Blk w b vs t') (h1 : 48 ≠ t') (h2 : 66 ≠ t') : InAt w' p fv sv l :=
  ⟨h.blk.fr1 hf (h.blk.ne hb h1), h.rd.frT h.ty hf hb h2, h.ty.fr1 hf hb h2⟩

set_option maxHeartbeats 400000 in
theorem there_yes {p : Nat} {fv : Value} {a : Option Addr} {n c : Nat} {w : World} (h : Blk w p #[fv, .slice a n c] 48) (hn : 0 < n) :
    Calls Try.prog 25 #[.pointer (some ⟨p, 0, none⟩)] w fun e w' => e = .returned (.bool true) ∧ w = w' := by
  have h1 : w.cell? ⟨p, 1, none⟩ = some (.slice a n c) := h.cell 1 rfl
  clear h
  go_enter Try.func25, Try.ntmps25
  go_wp2
  go_ret
  exact ⟨rfl, rfl⟩

set_option maxHeartbeats 400000 in
theorem newest_any {p : Nat} {fv sv : Value} {l : List (Int × ByteArray)} {w : World} (h : InAt w p fv sv l) (hn : 0 < l.length) :
    Calls Try.prog 11 #[.pointer (some ⟨p, 0, none⟩)] w fun e w' => e = .returned (.tuple #[.int .i64 (l[l.length - 1]).1, .string (l[l.length - 1]).2]) ∧ Fr0 w w' := by
  obtain ⟨hb, hr, hap⟩ := h
  have hp := hb.lt
  have hl63 := hr.le63
  obtain ⟨g, off, c, rfl, hic, hg, hc⟩ := hr.cellAt (i := l.length - 1) (by omega)
  have h1 : w.cell? ⟨p, 1, none⟩ = some (.slice (some ⟨g, off, none⟩) l.length c) := hb.cell 1 rfl
  obtain ⟨ha, hs⟩ := hcells_at l (l.length - 1) (by omega)
  have c0 := hc 0 _ ha
  have c1 := hc 1 _ hs
  clear hc ha hs
  have hT := there_yes hb hn
  have HT := Lib.hid hT
  clear hT hb hr
  obtain ⟨fr, hfr⟩ : ∃ fr : ByteArray, fr = (l[l.length - 1]).2 := ⟨_, rfl⟩
  obtain ⟨nr, hnr⟩ : ∃ nr : Int, nr = (l[l.length - 1]).1 := ⟨_, rfl⟩
  rw [← hfr] at c1
  rw [← hnr] at c0
  rw [← hfr, ← hnr]
  clear hfr hnr
  obtain ⟨m, hm⟩ : ∃ m, l.length = m + 1 := ⟨l.length - 1, by omega⟩
  rw [hm, show m + 1 - 1 = m from rfl] at c0 c1 hic
  rw [hm] at h1 hl63
  simp only [Nat.add_zero] at c0
  clear hm hn
  go_enter Try.func11, Try.ntmps11
  go_wp2_with (go_at_call 25; refine (HT.out).mono ?_; rintro e w' ⟨rfl, rfl⟩)
  go_region
  go_wp2
  go_region
  go_wp2
  go_ret2
  exact ⟨rfl, by repeat (first | exact Fr0.refl _ | refine Fr.drew ?_ | refine Fr.alloc ?_ _)⟩

/-- What a function value answers of a row that is held; it only makes new memory. -/
def HeldFn (w : World) (fv : Value) (f : Int × ByteArray → Bool) : Prop :=
  ∃ fn cap, fv = .func (.func fn) #[] cap ∧ (∀ (args : Array Value) (w1 : World), (callFunc fn args).run Try.prog w1 = .ok (.enter fn args) w1) ∧ ∀ (x : Int × ByteArray) (w1 : World), Fr0 w w1 →
    Calls Try.prog fn (#[.agg #[.int .i64 x.1, .string x.2]] ++ cap) w1 fun e w2 => e = .returned (.bool (f x)) ∧ Fr0 w1 w2

def idx (f : Int × ByteArray → Bool) (l : List (Int × ByteArray)) : Int := match l.findIdx? f with | some i => i | none => -1

theorem idx_more {f : Int × ByteArray → Bool} {l : List (Int × ByteArray)} {k : Nat} (hk : k < l.length) (hno : ∀ x ∈ l.take k, f x = false) (h : f l[k] = false) : ∀ x ∈ l.take (k + 1), f x = false := by
  intro x hx
  rw [List.take_succ_eq_append_getElem hk] at hx
  rcases List.mem_append.1 hx with hx | hx
  · exact hno x hx
  · simp at hx; rw [hx]; exact h
theorem idx_found {f : Int × ByteArray → Bool} {l : List (Int × ByteArray)} {k : Nat} (hk : k < l.length) (hno : ∀ x ∈ l.take k, f x = false) (h : f l[k] = true) : idx f l = k := by
  have : l.findIdx? f = some k := by
    rw [List.findIdx?_eq_some_iff_getElem]
    refine ⟨hk, h, fun j hj => ?_⟩
    have := hno l[j] (by rw [List.mem_take_iff_getElem]; exact ⟨j, by omega, rfl⟩)
    simp [this]
  simp [idx, this]
theorem idx_none {f : Int × ByteArray → Bool} {l : List (Int × ByteArray)} (hno : ∀ x ∈ l.take l.length, f x = false) : idx f l = -1 := by
  have : l.findIdx? f = none := by
    rw [List.findIdx?_eq_none_iff]
    intro x hx
    exact hno x (by simpa using hx)
  simp [idx, this]
set_option maxHeartbeats 400000 in
theorem indexFunc_any {fv sv : Value} {f : Int × ByteArray → Bool} {l : List (Int × ByteArray)} {w : World} (h : Rd w 2 sv l.length (hcells l)) (hf : HeldFn w fv f) :
    Calls Try.prog 27 #[sv, fv] w fun e w' => e = .returned (.int .i64 (idx f l)) ∧ Fr0 w w' := by
  obtain ⟨fn, cap, rfl, hbody, hcall⟩ := hf
  have hl63 := h.le63
  obtain ⟨A, c, rfl, hnc, _, _⟩ := h.form
  go_enter Try.func27, Try.ntmps27
  go_wp2_with fail
  go_loopw [8] (fun v8 wr => ∃ k : Nat, k ≤ l.length ∧ v8 = .int .i64 k ∧ Fr0 w wr ∧ Hid (∀ x ∈ l.take k, f x = false)) (fun v8 _ => l.length - (intOf v8).toNat)
  case atStart => exact ⟨0, Nat.zero_le _, rfl, Fr0.refl _, by intro x hx; simp at hx⟩
  case round =>
    obtain ⟨k, hk, rfl, hfr, hno⟩ := hrel
    by_cases hlt : k < l.length
    · have hr := h.fr0 hfr
      obtain ⟨g, off, c', hv, hic, hg, hc⟩ := hr.cellAt (i := k) (by omega)
      injection hv with hA _ hcc
      subst hA hcc
      obtain ⟨ha, hs⟩ := hcells_at l k (by omega)
      have c0 := hc 0 _ ha
      have c1 := hc 1 _ hs
      simp only [Nat.add_zero] at c0
      clear hc ha hs
      have hC := hcall l[k] wr hfr
      have HC := Lib.hid hC
      clear hC hcall
      clear hr h
      go_wp2_with fail
      refine (HC.out).mono ?_
      rintro e w1 ⟨rfl, hw1⟩
      cases hfx : f l[k]
      · go_wp2_with fail
        go_roundw
        case rel => exact ⟨k + 1, by omega, by go_num, hfr.trans hw1, idx_more hlt hno.out hfx⟩
        case measure => simp [intOf]; omega
      · go_wp2_with fail
        go_ret
        exact ⟨by rw [idx_found hlt hno.out hfx]; rfl, hfr.trans hw1⟩
    · have : k = l.length := by omega
      subst this
      go_wp2_with fail
      go_ret
      exact ⟨by rw [idx_none hno.out]; rfl, hfr⟩

theorem infoHeld : (Try.prog.info? 66).map (fun i => (i.zero, i.size, i.bytes)) = some (some (.agg #[.int .i64 0, .string ⟨#[]⟩]), 2, 24) := by kernel_rfl
theorem hcells_one (l : List (Int × ByteArray)) : ∀ u ∈ hcells l, u.oneCell' = true := by
  intro u hu
  simp only [hcells, List.mem_flatMap] at hu
  obtain ⟨x, _, hx⟩ := hu
  simp at hx
  rcases hx with rfl | rfl <;> rfl

set_option maxHeartbeats 400000 in
theorem clone_held {sv : Value} {n : Nat} {xs : List Value} {w : World} (h : Rd w 2 sv n xs) (h1 : ∀ u ∈ xs, u.oneCell' = true) (hn : n ≤ 1000000) :
    Calls Try.prog 29 #[sv] w fun e w' => ∃ v, e = .returned v ∧ w'.ownsRow w.heap.size 66 2 v n xs ∧ Fr0 w w' := by
  obtain ⟨A, c, rfl, hnc, hcm, hnone⟩ := h.form
  obtain ⟨i0, hi, hz0, hz1, hz2⟩ := info_parts infoHeld
  have qT : ∀ (w : World) (a : Option Addr) (n c n' c' : Nat), (binOp .eql 46 (.slice a n c) (.slice none n' c')).run Try.prog w = .ok (.bool a.isNone) w := fun w a n c n' c' => Lib.run_eql_slice_nil w _ _ a n c n' c' Try.underlying46
  cases A with
  | none =>
    obtain rfl : c = 0 := hnone rfl
    obtain rfl : n = 0 := by omega
    have hx : xs = [] := List.eq_nil_of_length_eq_zero (by simpa using h.len)
    subst hx
    go_enter Try.func29, Try.ntmps29
    go_wp2
    go_ret
    exact ⟨_, rfl, World.ownsRow_nil _ _ _ _, Fr0.refl _⟩
  | some a =>
    have hlen := h.len
    have hown : (w.alloc (.cells #[] 66)).ownsRow w.heap.size 66 2 (.slice (some ⟨w.heap.size, 0, none⟩) 0 0) 0 [] := World.ownsRow_made w #[] 0 (Nat.le_refl _) (by simp [maxLen]) rfl
    have hnews : ∀ j u, xs[j]? = some u → (w.alloc (.cells #[] 66)).cell? (a.add j) = some u := by
      intro j u hu
      have hr := h.fr0 (Fr.alloc (Fr0.refl w) (.cells #[] 66))
      have hj : j < xs.length := by
        rcases Nat.lt_or_ge j xs.length with h | h
        · exact h
        · rw [List.getElem?_eq_none h] at hu; cases hu
      obtain ⟨g, off, c', cur, _, fz, hv, hb, hc⟩ := hr.cells (by omega)
      injection hv with hA _ _
      injection hA with hA
      subst hA
      have := hc j u hu
      have hadd : (⟨g, off, none⟩ : Addr).add j = ⟨g, off + j, none⟩ := by unfold Addr.add; split <;> simp_all
      rw [hadd]
      simp [World.cell?, hb, this]
    clear h
    go_enter Try.func29, Try.ntmps29
    go_wp2_with (at_builtin; refine wpList_append_own _ rfl _ _ 46 rfl w.heap.size 66 i0 (.agg #[.int .i64 0, .string ⟨#[]⟩]) 2 24 Try.underlying46 hi hz0 hz1 hz2 rfl (by decide) _ _ _ rfl hown a n c xs rfl hlen hnews h1 (by unfold maxLen; omega) (by omega) (by simp) ?_; intro v' w1 hown' hgrow _)
    go_ret
    refine ⟨_, rfl, ?_, ?_⟩
    · simpa using hown'
    · exact Fr.grown (Fr.alloc (Fr0.refl w) _) hgrow (fun k hk => .inr (by cases hk; exact Nat.le_refl _))

/-- An instruction in memory. -/
def insV (old new ack trash : Int) (dv : Value) : Array Value := #[.int .i64 old, .int .i64 new, .int .i64 ack, .int .i64 trash, dv]

set_option maxHeartbeats 400000 in
theorem new_any (fn : Fn) (cap : Array Value) (s : ByteArray) (w : World) :
    Calls Try.prog 8 #[.func fn #[] cap, .string s] w fun e w' => ∃ p sv, e = .returned (.pointer (some ⟨p, 0, none⟩)) ∧ InAt w' p (.func fn #[] cap) sv [(0, s)] ∧ w.heap.size ≤ p ∧ p < w'.heap.size ∧ Fr0 w w' := by
  have qF : ∀ w : World, (binOp .eql 28 (.func fn #[] cap) .nilFunc).run Try.prog w = .ok (.bool false) w := fun _ => by kernel_rfl
  go_enter Try.func8, Try.ntmps8
  go_wp2
  go_ret
  have b1 := Blk.new w #[.int .i64 0, .string s] 66
  have b2 := b1.alloc (.cells #[.func fn #[] cap, .slice (some ⟨w.heap.size, 0, none⟩) 1 1] 48)
  refine ⟨w.heap.size + 1, .slice (some ⟨w.heap.size, 0, none⟩) 1 1, rfl, ⟨?_, ?_, ?_⟩, by omega, by simp, by repeat (first | exact Fr0.refl _ | refine Fr.drew ?_ | refine Fr.alloc ?_ _)⟩
  · have := Blk.new (w.alloc (.cells #[.int .i64 0, .string s] 66)) #[.func fn #[] cap, .slice (some ⟨w.heap.size, 0, none⟩) 1 1] 48
    simpa using this
  · exact Rd.of_own (own_of_block (base := 0) (k := 1) (cap := 1) b2 (Nat.zero_le _) (by omega) (by simp [maxLen]) rfl)
  · intro g hg
    cases hg
    exact ⟨_, _, b2⟩

set_option maxHeartbeats 400000 in
theorem keep_fn {px pl : Nat} {w : World} {old new ack trash : Int} {dv : Value} {n : Int} {s : ByteArray}
    (hx : Blk w px (insV old new ack trash dv) 30) (hl : Blk w pl #[.int .i64 n, .string s] 66) :
    HeldFn w (.func (.func 28) #[] #[.pointer (some ⟨px, 0, none⟩), .pointer (some ⟨pl, 0, none⟩)]) (fun h => decide (h.1 ≥ trash) || h.1 == n) := by
  refine ⟨_, _, rfl, fun args w1 => by kernel_rfl, fun h w1 hf => ?_⟩
  have c0 : w1.cell? ⟨px, 3, none⟩ = some (.int .i64 trash) := (hx.fr0 hf).cell 3 rfl
  have c1 : w1.cell? ⟨pl, 0, none⟩ = some (.int .i64 n) := (hl.fr0 hf).cell 0 rfl
  have hp1 := (hx.fr0 hf).lt
  have hp2 := (hl.fr0 hf).lt
  clear hx hl
  simp only [List.append_toArray, List.nil_append, List.cons_append]
  by_cases h1 : trash ≤ h.1
  · go_enter Try.func28, Try.ntmps28
    go_wp2
    go_ret
    exact ⟨by simp [h1], by repeat (first | exact Fr0.refl _ | refine Fr.drew ?_ | refine Fr.alloc ?_ _)⟩
  · go_enter Try.func28, Try.ntmps28
    go_wp2
    go_ret
    have h2 : ¬ trash ≤ h.1 := by omega
    exact ⟨by simp [h2], by repeat (first | exact Fr0.refl _ | refine Fr.drew ?_ | refine Fr.alloc ?_ _)⟩

set_option maxHeartbeats 400000 in
theorem at_fn {px : Nat} {w : World} {old new ack trash : Int} {dv : Value} (hx : Blk w px (insV old new ack trash dv) 30) :
    HeldFn w (.func (.func 30) #[] #[.pointer (some ⟨px, 0, none⟩)]) (fun h => h.1 == old) := by
  refine ⟨_, _, rfl, fun args w1 => by kernel_rfl, fun h w1 hf => ?_⟩
  have c0 : w1.cell? ⟨px, 0, none⟩ = some (.int .i64 old) := (hx.fr0 hf).cell 0 rfl
  have hp1 := (hx.fr0 hf).lt
  clear hx
  simp only [List.append_toArray, List.nil_append, List.cons_append]
  go_enter Try.func30, Try.ntmps30
  go_wp2
  go_ret
  exact ⟨rfl, by repeat (first | exact Fr0.refl _ | refine Fr.drew ?_ | refine Fr.alloc ?_ _)⟩


/-- What a function value makes of a text and of what was told of it; it only makes new memory. -/
def AppFn (fv : Value) (f : ByteArray → List UInt8 → ByteArray × Int) : Prop :=
  ∃ fn, fv = .func (.func fn) #[] #[] ∧ (∀ (args : Array Value) (w1 : World), (callFunc fn args).run Try.prog w1 = .ok (.enter fn args) w1) ∧
    ∀ (s : ByteArray) (dv : Value) (d : List UInt8) (w1 : World), s.size ≤ 1000000 → d.length ≤ 1000000 → Rd w1 1 dv d.length (byts d) →
      Calls Try.prog fn #[.string s, dv] w1 fun e w2 => e = .returned (.tuple #[.string (f s d).1, .int .i64 (f s d).2]) ∧ Fr0 w1 w2

/-- What Hear leaves, and what it answers. -/
def hear (f : ByteArray → List UInt8 → ByteArray × Int) (l : List (Int × ByteArray)) (old new ack trash : Int) (d : List UInt8) : List (Int × ByteArray) × Bool × Int :=
  if may old new ack trash d.length ≠ 0 then (l, false, may old new ack trash d.length) else
  let last := (l.getD (l.length - 1) (0, ⟨#[]⟩)).1
  let m := l.drop (idx (fun h => decide (h.1 ≥ trash) || h.1 == last) l).toNat
  if new ≤ last then (m, false, 0) else
  let at_ := idx (fun h => h.1 == old) m
  if at_ < 0 then (m, false, 6) else
  let r := f (m.getD at_.toNat (0, ⟨#[]⟩)).2 d
  if r.2 ≠ 0 then (m, false, r.2) else
  if 16 ≤ m.length then (m, false, 5) else (m ++ [(new, r.1)], true, 0)

theorem idx_cases (f : Int × ByteArray → Bool) (l : List (Int × ByteArray)) :
    (∃ k, ∃ h : k < l.length, idx f l = k ∧ f l[k] = true) ∨ (idx f l = -1 ∧ ∀ x ∈ l, f x = false) := by
  cases e : l.findIdx? f with
  | some k =>
    obtain ⟨h, h1, _⟩ := List.findIdx?_eq_some_iff_getElem.1 e
    exact .inl ⟨k, h, by simp [idx, e], h1⟩
  | none => exact .inr ⟨by simp [idx, e], fun x hx => by simpa using List.findIdx?_eq_none_iff.1 e x hx⟩
theorem getD_at {l : List (Int × ByteArray)} {k : Nat} (h : k < l.length) : l.getD k (0, ⟨#[]⟩) = l[k] := by
  rw [List.getD_eq_getElem?_getD, List.getElem?_eq_getElem h]; rfl

end Go.Proofs.Ytbfamnfhnjgllaa
