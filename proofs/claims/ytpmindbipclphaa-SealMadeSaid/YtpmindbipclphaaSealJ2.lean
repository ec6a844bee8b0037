/- The reference's times walked. Conditions stand in the statements. -/
import Derived.Test.YtpmindbipclphaaRows
import Derived.Test.YtpmindbipclphaaBytes
import Derived.KernelRfl
import Derived.Test.YtpmindbipclphaaWireLaw
import Derived.WalkKit
import Derived.WalkSpells
import Derived.BigQuiet
import Derived.Deep.QuietTactic
import Derived.Lib.Hide
import Derived.Handy
import Derived.Deep.AppendSrc
import Derived.Maps.AppendAt
import Derived.Test.YtpmindbipclphaaSealJ1
import Derived.Lib.AppendZeros
import Derived.Test.YtpmindbipclphaaStepsG
import Derived.Test.YtpmindbipclphaaSl
import Derived.Test.YtpmindbipclphaaArrRd
import Derived.Test.YtpmindbipclphaaStepSl
import Derived.Test.YtpmindbipclphaaShaSumLaw
import Derived.Test.YtpmindbipclphaaCopy
import Derived.Test.YtpmindbipclphaaSealWord
import Derived.RangeFuncNested
import Derived.RangeFuncLeaves
import Derived.RangeFuncCalls
import Derived.OrdersIn
import Derived.StillTail
import Derived.StillTailTactics
import Derived.TacticsInMore
import Derived.LoopNIn
import Derived.LoopIn
import Derived.OwnWalkIn
import Derived.Shelf.RegionOpen
import Derived.Test.YtpmindbipclphaaBase
import Derived.Laws.MakeOwn
import Derived.Test.YtpmindbipclphaaArgs
import Derived.Test.YtpmindbipclphaaShaEq
import Derived.Test.YtpmindbipclphaaSteps2
import Derived.Test.YtpmindbipclphaaQuiet
import Derived.IntWalk
import Derived.Test.YtpmindbipclphaaShaSum2
import Derived.Test.YtpmindbipclphaaShaLaw
import Derived.Deep.RegionHeldLaw
import Derived.Laws.OwnMore
namespace Go.Proofs.Ytpmindbipclphaa
open Go.RowKit

theorem infoU8 : (Try.prog.info? 5).map (fun i => (i.zero, i.size, i.bytes)) = some (some (.int .u8 0), 1, 1) := by kernel_rfl
theorem strI (d : List UInt8) : (str d).toList = d := by rw [ByteArray.toList_eq]; exact str_toList d
/-- A piece of the call's own: its value reads as bytes, and its text. -/
theorem own_text {w w0 : World} {v : Value} {d : List UInt8} (h : w.ownsRow w0.heap.size 5 1 v d.length (byts d)) :
    ∃ A c, v = .slice A d.length c ∧ RdB w (.slice A d.length c) d ∧ (convert 35 9 (.slice A d.length c)).run Try.prog w = .ok (.string (str d)) w := by
  obtain ⟨A, c, rfl, _⟩ := own_form h
  exact ⟨A, c, rfl, RdB.of_own h, conv_bytes w _ _ _ Try.underlying35 Try.underlying5 Try.underlying9 (RdB.of_own h)⟩

theorem conv_own {w : World} {A : Option Addr} {c : Nat} {d : List UInt8} (h : RdB w (.slice A d.length c) d) : (convert 35 9 (.slice A d.length c)).run Try.prog w = .ok (.string (str d)) w :=
  conv_bytes w _ _ _ Try.underlying35 Try.underlying5 Try.underlying9 h

/-- The same, the length spelled as asked. -/
theorem own_textN {w w0 : World} {v : Value} {d : List UInt8} {n : Nat} (hn : d.length = n) (h : w.ownsRow w0.heap.size 5 1 v d.length (byts d)) :
    ∃ A c, v = .slice A n c ∧ RdB w (.slice A n c) d ∧ (convert 35 9 (.slice A n c)).run Try.prog w = .ok (.string (str d)) w := by
  subst hn; exact own_text h
theorem conv_ownN {w : World} {A : Option Addr} {c : Nat} {d : List UInt8} {n : Nat} (hn : d.length = n) (h : RdB w (.slice A n c) d) : (convert 35 9 (.slice A n c)).run Try.prog w = .ok (.string (str d)) w := by
  subst hn; exact conv_own h

end Go.Proofs.Ytpmindbipclphaa
namespace Go.Proofs.Ytpmindbipclphaa
open Go.RowKit


set_option maxHeartbeats 400000 in
theorem bytesClone_any {v : Value} {d : List UInt8} {w : World} (h : RdB w v d) (hn : d.length ≤ 100000000) :
    Calls Try.prog 42 #[v] w fun e w' => ∃ v', e = .returned v' ∧ w'.ownsRow w.heap.size 5 1 v' d.length (byts d) ∧ Fr0 w w' := by
  obtain ⟨A, c, rfl, hnc, hcm, hnone⟩ := h.form
  obtain ⟨i0, hiW, hz0, hz1, hz2⟩ := info_parts infoU8
  have qT : ∀ (w : World) (a : Option Addr) (n c n' c' : Nat), (binOp .eql 35 (.slice a n c) (.slice none n' c')).run Try.prog w = .ok (.bool a.isNone) w := fun w a n c n' c' => Lib.run_eql_slice_nil w _ _ a n c n' c' Try.underlying35
  cases A with
  | none =>
    obtain rfl : c = 0 := hnone rfl
    have hd : d = [] := List.eq_nil_of_length_eq_zero (by omega)
    subst hd
    go_enter Try.func42, Try.ntmps42
    go_wp2
    go_ret
    exact ⟨_, rfl, World.ownsRow_nil _ _ _ _, Fr0.refl _⟩
  | some a =>
    have hown : (w.alloc (.cells #[] 5)).ownsRow w.heap.size 5 1 (.slice (some ⟨w.heap.size, 0, none⟩) 0 0) 0 [] := own_empty (heap_alloc_new w _) (Nat.le_refl _)
    have hnews := (Rd.fr0 h (Fr0.alloc (Fr0.refl w) (.cells #[] 5))).news
    clear h
    go_enter Try.func42, Try.ntmps42
    go_wp2_with (at_builtin; refine wpList_append_own _ rfl _ _ 35 rfl w.heap.size 5 i0 (.int .u8 0) 1 1 Try.underlying35 hiW hz0 hz1 hz2 rfl (by decide) _ _ _ rfl hown a d.length c (byts d) rfl (byts_len d) hnews (byts_one d) (by unfold maxLen; omega) (by omega) (by simp) ?_; intro v' w1 hown' hgrow _)
    go_ret
    refine ⟨_, rfl, ?_, ?_⟩
    · simpa using hown'
    · exact Fr.grown (Fr.alloc (Fr0.refl w) _) hgrow (fun k hk => .inr (by cases hk; exact Nat.le_refl _))

theorem own_baseW {w : World} {t : TypeId} {size n b b' : Nat} {v : Value} {xs : List Value} (h : w.ownsRow b t size v n xs) (hb : b' ≤ b) : w.ownsRow b' t size v n xs :=
  ⟨h.1, h.2.imp id (by rintro ⟨g, cap, cur, h1, h2, h3⟩; exact ⟨g, cap, cur, h1, Nat.le_trans hb h2, h3⟩)⟩
end Go.Proofs.Ytpmindbipclphaa
namespace Go.Proofs.Ytpmindbipclphaa

theorem run_append_none {P : Program} (w : World) (base : Nat) (t tx ty e e' : TypeId) (i : TypeInfo) (ht : P.underlying t = some (.slice e)) (hk : P.underlying tx = some (.slice e')) (hi : P.info? e = some i)
    (v : Value) (n : Nat) (xs : List Value) (hown : w.ownsRow base e i.size v n xs) (c : Nat) :
    (Builtin.append_ #[t, tx] ty #[v, .slice none 0 c]).run P w = .ok v w := by
  rcases hown.2 with ⟨rfl, rfl⟩ | ⟨g, cap, cur, rfl, hbg, hg, hnc, hcm, hcs, htake⟩
  · simp [Builtin.append_, run_underlying ht, run_underlying hk, sizeOf, typeInfo, hi, Builtin.lenOf, Builtin.firstCells]
  · have := run_append_room_src (P := P) w t tx ty e i ht hi g 0 n cap (.slice none 0 c) 0 [] (Src.ofNil (P := P) w hk c) (by omega) (fun j hj => by simp at hj) (fun j hj => by simp at hj)
    rw [this]
    simp [World.setCells]

theorem wpList_append_rd {P : Program} (w : World) {ops : Array Oper} {rest : List Oper} {o : Oper} {a : Act} {Q : Exit → Act → World → Prop} (hgd : o.guard = none) (s x : Operand) (t : TypeId)
    (ho : o.op = .call { callee := .builtin .append, args := #[s, x], argTypes := #[t, t] })
    (base : Nat) (e : TypeId) (i : TypeInfo) (z : Value) (size bytes : Nat) (ht : P.underlying t = some (.slice e)) (hi : P.info? e = some i) (hz : i.zero = some z)
    (hsize : i.size = size) (hby : i.bytes = bytes) (hzs : z.cells.size = size) (hsz : 0 < size)
    (v : Value) (n : Nat) (xs : List Value) (hs : a.eval s = v) (hown : w.ownsRow base e size v n xs)
    (v2 : Value) (m : Nat) (news : List Value) (hx : a.eval x = v2) (hr : Rd w size v2 m news) (h1 : ∀ u ∈ news, u.oneCell' = true)
    (h63 : n + m ≤ maxLen) (hbytes : (n + m) * bytes ≤ 140737488355328) (hbase : base ≤ w.heap.size)
    (h : ∀ v' w', w'.ownsRow base e size v' (n + m) (xs ++ news) → w.grownBy w' v.ownBlock → wpList P ops Q rest (a.put o.dst v') w') :
    wpList P ops Q (o :: rest) a w := by
  obtain ⟨A, c, rfl, hnc, hcm, hnone⟩ := hr.form
  cases A with
  | some ad => exact wpList_append_own_at (P := P) w hgd s x t ho base e i z size bytes ht hi hz hsize hby hzs hsz v n xs hs hown ad m c news hx hr.len hr.news h1 h63 hbytes hbase (fun v' w' h2 h3 _ _ => h v' w' h2 h3)
  | none =>
    have hc : c = 0 := hnone rfl
    have hm : m = 0 := by omega
    subst hc hm
    have hnews : news = [] := List.eq_nil_of_length_eq_zero (by rw [hr.len]; omega)
    subst hnews
    refine wpList_plain hgd fun K hK => ?_
    have hrun := run_append_none (P := P) w base t t o.type e e i ht ht hi v n xs (by rw [hsize]; exact hown) 0
    unfold Oper.wp execOp
    simp only [ho, resolve, invoke, builtin, Sem.run_bind, Sem.run_pure, Result.andThen_ok, List.map_toArray, List.map_cons, List.map_nil, hs, hx, hrun]
    exact hK _ _ (h v w (by simpa using hown) ⟨rfl, rfl, rfl, Nat.le_refl _, fun _ _ _ => rfl⟩)
end Go.Proofs.Ytpmindbipclphaa
namespace Go.Proofs.Ytpmindbipclphaa
open Go.RowKit

set_option maxHeartbeats 400000 in
theorem open_any {v : Value} {d : List UInt8} {w : World} (h : RdB w v d) (hn : d.length ≤ 100000000) :
    Calls Try.prog 28 #[v] w fun e w' => ∃ p v', e = .returned (.pointer (some ⟨p, 0, none⟩)) ∧ Blk w' p #[v', .int .i64 0] 79 ∧ w'.ownsRow w.heap.size 5 1 v' d.length (byts d) ∧ Fr0 w w' ∧ w.heap.size ≤ p := by
  have hC := Lib.hid (bytesClone_any h hn)
  clear h
  go_enter Try.func28, Try.ntmps28
  go_wp2_with (go_at_call 42; refine (hC.out).mono ?_; rintro e w1 ⟨v1, rfl, hown, hf⟩; obtain ⟨A1, c1, rfl, -, -, -⟩ := own_form hown)
  go_ret
  exact ⟨_, _, rfl, Blk.new _ _ _, hown.alloc _, hf.alloc _, hf.size⟩

end Go.Proofs.Ytpmindbipclphaa
namespace Go.Proofs.Ytpmindbipclphaa
open Go.RowKit

/-- A reader, its slice named. -/
structure RdrV (w : World) (p : Nat) (A : Option Addr) (c : Nat) (d : List UInt8) (e : Int) : Prop where
  blk : Blk w p #[.slice A d.length c, .int .i64 e] 79
  rd : RdB w (.slice A d.length c) d
  ty : TyB w (.slice A d.length c) 5

section
variable {w w' : World} {p b : Nat} {A : Option Addr} {c : Nat} {d : List UInt8} {e : Int}
theorem RdrV.fr0 (h : RdrV w p A c d e) (hf : Fr0 w w') : RdrV w' p A c d e := ⟨h.blk.fr0 hf, h.rd.fr0 hf, h.ty.fr0 hf⟩
theorem RdrV.frT (h : RdrV w p A c d e) {vs : Array Value} {t : TypeId} (hb : Blk w b vs t) (ht : 79 ≠ t) (ht2 : 5 ≠ t) (hf : Fr1 b w w') : RdrV w' p A c d e :=
  ⟨h.blk.fr1 hf (h.blk.ne hb ht), Rd.frT h.rd h.ty hf hb ht2, h.ty.fr1 hf hb ht2⟩
end

theorem slice_to {P : Program} {T e : TypeId} (ht : P.underlying T = some (.slice e)) (hs : ∀ w, (sizeOf e).run P w = .ok 1 w) {A : Option Addr} {n c k : Nat} (hk : k ≤ c) (w : World) :
    (Instr.slice T (.slice A n c) none (some (.int .i64 (k : Int))) none).run P w = .ok (.slice A k c) w := by
  have hel : P.elem T = e := by simp [Program.elem, ht]
  rw [run_slice_h (w := w) T A n c (by rw [hel]; exact ht) .i64 (k : Int) (by omega) (by omega), hel, hs w]
  simp [Result.andThen, sliced, Addr.add]

set_option maxHeartbeats 400000 in
theorem take_nil (fv : Value) (w : World) :
    Calls Try.prog 43 #[.pointer none, fv] w fun e w' => e = .returned (.slice none 0 0) ∧ w' = w := by
  go_enter Try.func43, Try.ntmps43
  go_wp2_with fail
  go_ret
  exact ⟨rfl, rfl⟩

set_option maxHeartbeats 400000 in
theorem take_err {p : Nat} {A : Option Addr} {c : Nat} {d : List UInt8} {er : Int} {w : World} (h : RdrV w p A c d er) (he : er ≠ 0) (fv : Value) :
    Calls Try.prog 43 #[.pointer (some ⟨p, 0, none⟩), fv] w fun e w' => e = .returned (.slice none 0 0) ∧ w' = w := by
  have c1 : w.cell? ⟨p, 1, none⟩ = some (.int .i64 er) := h.blk.cell 1 rfl
  have hb : (er != 0) = true := by simpa using he
  clear h he
  go_enter Try.func43, Try.ntmps43
  go_wp2_with fail
  go_ret
  exact ⟨rfl, rfl⟩

/-- What a step may do: it keeps the reader; G: what else it leaves. -/
structure StepFn (w : World) (p : Nat) (A : Option Addr) (c : Nat) (d : List UInt8) (fv : Value) (n : Nat) (er : Int) (G : World → Prop) : Prop where
  some_fn : ∃ fn recv cap, fv = .func (.func fn) recv cap ∧ (∀ (args : Array Value) (w1 : World), (callFunc fn args).run Try.prog w1 = .ok (.enter fn args) w1) ∧
    Calls Try.prog fn (recv ++ cap) w fun e w' => e = .returned (.tuple #[.int .i64 n, .int .i64 er]) ∧ G w'
  keeps : ∀ w', G w' → RdrV w' p A c d 0
  fits : er = 0 → n ≤ d.length

set_option maxHeartbeats 400000 in
theorem wtake_any {p : Nat} {A : Option Addr} {c : Nat} {d : List UInt8} {w : World} {fv : Value} {n : Nat} {er : Int} {G : World → Prop} (h : RdrV w p A c d 0) (hs : StepFn w p A c d fv n er G) :
    Calls Try.prog 43 #[.pointer (some ⟨p, 0, none⟩), fv] w fun e w' => ∃ w1 v, e = .returned v ∧ G w1 ∧ Fr1 p w1 w' ∧
      (er ≠ 0 → v = .slice none 0 0 ∧ RdrV w' p A c d er) ∧ (er = 0 → (∃ A' c', RdrV w' p A' c' (d.drop n) 0) ∧ v = .slice A n c ∧ RdB w' v (d.take n) ∧ TyB w' v 5) := by
  obtain ⟨⟨fn, recv, cap, rfl, hbody, hcall⟩, hk, hfit⟩ := hs
  have c1 : w.cell? ⟨p, 1, none⟩ = some (.int .i64 0) := h.blk.cell 1 rfl
  have HC := Lib.hid hcall
  have HK := Lib.hid hk
  have HF := Lib.hid hfit
  have hcap : d.length ≤ c := by obtain ⟨A', c', hv, h1, _⟩ := RdB.form h.rd; injection hv with _ _ hc; omega
  clear hcall hk hfit h
  by_cases he : er = 0
  · subst he
    have hn := HF.out rfl
    have hsl : ∀ w', (Instr.slice 35 (.slice A d.length c) none (some (.int .i64 (n : Int))) none).run Try.prog w' = .ok (.slice A n c) w' := fun w' => slice_to Try.underlying35 (fun _ => by kernel_rfl) (by omega) w'
    clear HF
    go_enter Try.func43, Try.ntmps43
    go_wp2_with fail
    refine (HC.out).mono ?_
    rintro e w1 ⟨rfl, hG⟩
    have h1 := HK.out w1 hG
    have c0 : w1.cell? ⟨p, 0, none⟩ = some (.slice A d.length c) := h1.blk.cell 0 rfl
    have f0 : w1.frozen? ⟨p, 0, none⟩ = false := h1.blk.free 0
    obtain ⟨A', hsl2, hr2, hbk⟩ := slice_from (P := Try.prog) (T := 35) (e := 5) Try.underlying35 (fun _ => by kernel_rfl) (k := n) h1.rd hn (n : Int) rfl
    have H1 := Lib.hid h1
    have H2 := Lib.hid hr2
    have HB := Lib.hid hbk
    clear h1 hr2 hbk
    go_wp2_with fail
    go_ret
    have h1 := H1.out
    have hf : Fr1 p w1 (w1.setCell ⟨p, 0, none⟩ (.slice A' (d.length - n) (c - n))) := Fr.setCell (S := fun b => b = p) (p := ⟨p, 0, none⟩) (Fr.refl _ w1) (.inl rfl) _
    have ht : TyB w1 (.slice A n c) 5 := fun g hg => h1.ty g (by cases A with | none => cases hg | some a => exact hg)
    have hr3 : RdB w1 (.slice A n c) (d.take n) := RdB.take h1.rd hn
    have ht' : TyB w1 (.slice A' (d.length - n) (c - n)) 5 := fun g hg => h1.ty g (HB.out g hg)
    have hne : 5 ≠ 79 := by decide
    have hl : (d.drop n).length = d.length - n := List.length_drop
    refine ⟨w1, _, rfl, hG, hf, fun h => absurd rfl h, fun _ => ⟨⟨A', c - n, ?_, ?_, ?_⟩, rfl, ?_, ?_⟩⟩
    · rw [hl]; exact h1.blk.set 0 _
    · rw [hl]; exact Rd.frT H2.out ht' hf h1.blk hne
    · rw [hl]; exact ht'.fr1 hf h1.blk hne
    · exact Rd.frT hr3 ht hf h1.blk hne
    · exact ht.fr1 hf h1.blk hne
  · have hb : (er != 0) = true := by simpa using he
    go_enter Try.func43, Try.ntmps43
    go_wp2_with fail
    refine (HC.out).mono ?_
    rintro e w1 ⟨rfl, hG⟩
    have h1 := HK.out w1 hG
    have f1 : w1.frozen? ⟨p, 1, none⟩ = false := h1.blk.free 1
    have c2 : w1.cell? ⟨p, 1, none⟩ = some (.int .i64 0) := h1.blk.cell 1 rfl
    have H1 := Lib.hid h1
    clear h1
    go_wp2_with fail
    go_ret
    have h1 := H1.out
    have hf : Fr1 p w1 (w1.setCell ⟨p, 1, none⟩ (.int .i64 er)) := Fr.setCell (S := fun b => b = p) (p := ⟨p, 1, none⟩) (Fr.refl _ w1) (.inl rfl) _
    have hne : 5 ≠ 79 := by decide
    exact ⟨w1, _, rfl, hG, hf, fun _ => ⟨rfl, h1.blk.set 1 _, Rd.frT h1.rd h1.ty hf h1.blk hne, h1.ty.fr1 hf h1.blk hne⟩, fun h => absurd h he⟩
end Go.Proofs.Ytpmindbipclphaa
namespace Go.Proofs.Ytpmindbipclphaa
open Go.RowKit

/-- The last k bytes of a number, the highest first. -/
def fixForm (n : Nat) : Nat → List UInt8
  | 0 => []
  | k + 1 => UInt8.ofNat (n / 256 ^ k % 256) :: fixForm n k
theorem fixForm_len (n : Nat) : ∀ k, (fixForm n k).length = k
  | 0 => rfl
  | k + 1 => by simp [fixForm, fixForm_len n k]
/-- A fixed number's form: the sizes that may be. -/
def fixed (n : Nat) (size : Int) : List UInt8 := if size < 1 ∨ 8 < size then [] else fixForm n size.toNat

theorem pow8 (i : Nat) : 2 ^ (8 * i) = 256 ^ i := by rw [Nat.pow_mul]
theorem shr8 (n i : Nat) (hiW : i ≤ 7) : (n : Int) / 2 ^ ((8 * (i : Int)).toNat) = ((n / 256 ^ i : Nat) : Int) := by
  have e : (8 * (i : Int)).toNat = 8 * i := by omega
  rw [e, ← pow8]
  simp

theorem own_at {w : World} {base size n cap g : Nat} {t : TypeId} {xs : List Value} (h : w.ownsRow base t size (.slice (some ⟨g, 0, none⟩) n cap) n xs) {j : Nat} {u : Value} (hj : xs[j]? = some u) :
    w.cell? ⟨g, j, none⟩ = some u ∧ w.frozen? ⟨g, j, none⟩ = false := by
  rcases h.2 with ⟨h', _⟩ | ⟨g', cap', cur, h', hb, hg, hnc, hcm, hcs, htake⟩
  · cases h'
  · injection h' with hA _ hc
    injection hA with hA
    injection hA with hA
    subst hA hc
    have := (Rd.of_own h).news j u hj
    have hadd : (⟨g, 0, none⟩ : Addr).add j = ⟨g, j, none⟩ := by unfold Addr.add; split <;> simp_all
    rw [hadd] at this
    exact ⟨this, by simp [World.frozen?, hg]⟩

set_option maxHeartbeats 400000 in
theorem wireFixed_bad (n : Nat) (size : Int) (hb : size < 1 ∨ 8 < size) (w : World) :
    Calls Try.prog 21 #[.int .u64 (n : Int), .int .i64 size] w fun e w' => e = .returned (.slice none 0 0) ∧ w' = w := by
  by_cases k0 : size < 1
  · have q0 : decide (size < 1) = true := by simpa using k0
    clear k0 hb
    go_enter Try.func21, Try.ntmps21
    go_wp2_with fail
    go_ret
    exact ⟨rfl, rfl⟩
  · have q0 : decide (size < 1) = false := by simpa using k0
    have q1 : decide (8 < size) = true := by simp; omega
    clear k0 hb
    go_enter Try.func21, Try.ntmps21
    go_wp2_with fail
    go_ret
    exact ⟨rfl, rfl⟩

set_option maxHeartbeats 400000 in
set_option maxRecDepth 100000 in
theorem wireFixed_good (n : Nat) (size : Nat) (hn : n < 18446744073709551616) (h1 : 1 ≤ size) (h8 : size ≤ 8) (w : World) :
    Calls Try.prog 21 #[.int .u64 (n : Int), .int .i64 (size : Int)] w fun e w' => ∃ v, e = .returned v ∧ w'.ownsRow w.heap.size 5 1 v size (byts (fixForm n size)) ∧ Fr0 w w' := by
  obtain ⟨i0, hiW, hz0, hz1, hz2⟩ := info_parts infoU8
  obtain ⟨W, hmk, hown, hgr⟩ := run_make_full (P := Try.prog) w w.heap.size 35 5 i0 (.int .u8 0) 1 Try.underlying35 hiW hz0 hz1 .i64 .i64 size (by rw [hz2]; omega) (by unfold maxLen; omega) (Nat.le_refl _)
  have HO := Lib.hid hown
  have HG := Lib.hid hgr
  have q0 : decide ((size : Int) < 1) = false := by simp; omega
  have q1 : decide (8 < (size : Int)) = false := by simp; omega
  have h0 : (0 : Int) ≤ size := by omega
  clear hown hgr hiW hz0 hz1 hz2
  go_enter Try.func21, Try.ntmps21
  go_wp2_with fail
  clear hmk q0 q1 h0
  go_loopw [16] (fun v16 wr => ∃ i : Nat, v16 = .int .i64 (i : Int) ∧ i ≤ size ∧ Fr0 w wr ∧ wr.ownsRow w.heap.size 5 1 (.slice (some ⟨w.heap.size, 0, none⟩) size size) size (byts (List.replicate (size - i) 0 ++ fixForm n i))) (fun v16 _ => size - (intOf v16).toNat)
  case atStart =>
    refine ⟨0, rfl, by omega, (Fr0.refl w).grown HG.out (fun k hk => by cases hk), ?_⟩
    have := HO.out
    rw [show (Value.int IntKind.u8 0).cells = #[.int .u8 0] from rfl, toList_madeCells_one] at this
    simpa [fixForm, byts] using this
  case round =>
    obtain ⟨i, rfl, hiW, hf, hown⟩ := hrel
    by_cases hlt : i < size
    · have hidx : ((size : Int) - 1 - i).toNat = size - 1 - i := by omega
      have e0 : (0 : Int) ≤ (size : Int) - 1 - i := by omega
      have e1 : (size : Int) - 1 - i < size := by omega
      have e2 : IntKind.i64.wrap ((size : Int) - 1) = (size : Int) - 1 := IntWalk.i64_in _ (by omega)
      have e3 : IntKind.i64.wrap ((size : Int) - 1 - i) = (size : Int) - 1 - i := IntWalk.i64_in _ (by omega)
      have e4 : IntKind.i64.wrap (8 * (i : Int)) = 8 * (i : Int) := IntWalk.i64_in _ (by omega)
      have es := shr8 n i (by omega)
      have eo : ((n / 256 ^ i : Nat) : Int) % 256 = ((UInt8.ofNat (n / 256 ^ i % 256)).toNat : Int) := by rw [u8_of _ (by omega)]; omega
      obtain ⟨cB, fB⟩ := own_at hown (j := size - 1 - i) (u := .int .u8 (0 : UInt8).toNat) (by rw [byts, List.getElem?_map, List.getElem?_append_left (by simp; omega), List.getElem?_replicate_of_lt (by omega)]; rfl)
      have HO := Lib.hid hown
      have EO := Lib.hid eo
      clear hown eo
      go_wp2_with fail
      clear hidx e0 e1 e2 e3 e4 es cB fB
      go_roundw
      case measure => simp [intOf]; omega
      refine ⟨i + 1, by simp, by omega, Fr.setCell (p := ⟨w.heap.size, size - 1 - i, none⟩) hf (.inr (Nat.le_refl _)) _, ?_⟩
      have := ((HO.out).stored (size - 1 - i) (.int .u8 ((n : Int) / 256 ^ i % 256))).1
      have e : (byts (List.replicate (size - i) 0 ++ fixForm n i)).set (size - 1 - i) (.int .u8 ((n : Int) / 256 ^ i % 256)) = byts (List.replicate (size - (i + 1)) 0 ++ fixForm n (i + 1)) := by
        have h2 : ((n : Int) / 256 ^ i % 256) = ((UInt8.ofNat (n / 256 ^ i % 256)).toNat : Int) := by rw [← EO.out]; simp
        rw [h2, show size - i = (size - 1 - i) + 1 by omega, List.replicate_succ', show size - (i + 1) = size - 1 - i by omega]
        simp [byts, fixForm]
      rwa [e] at this
    · have e : i = size := by omega
      subst e
      have HO := Lib.hid hown
      clear hown
      go_wp2_with fail
      go_ret
      exact ⟨_, rfl, by simpa using HO.out, hf⟩

theorem wireFixed_any (n : Nat) (size : Int) (hn : n < 18446744073709551616) (w : World) :
    Calls Try.prog 21 #[.int .u64 (n : Int), .int .i64 size] w fun e w' => ∃ v, e = .returned v ∧ w'.ownsRow w.heap.size 5 1 v (fixed n size).length (byts (fixed n size)) ∧ Fr0 w w' := by
  by_cases hb : size < 1 ∨ 8 < size
  · refine (wireFixed_bad n size hb w).mono ?_
    rintro e w' ⟨rfl, rfl⟩
    rw [show fixed n size = [] from if_pos hb]
    exact ⟨_, rfl, World.ownsRow_nil _ _ _ _, Fr0.refl _⟩
  · obtain ⟨k, rfl⟩ : ∃ k : Nat, size = k := ⟨size.toNat, by omega⟩
    rw [show fixed n (k : Int) = fixForm n k from by unfold fixed; rw [if_neg hb]; rfl, fixForm_len]
    exact wireFixed_good n k hn (by omega) (by omega) w
end Go.Proofs.Ytpmindbipclphaa
set_option linter.unusedSimpArgs false
set_option linter.unusedVariables false
namespace Go.Proofs.Ytpmindbipclphaa
open Go.RowKit

theorem fixForm_at (n : Nat) : ∀ (k j : Nat), j < k → (fixForm n k).getD j 0 = UInt8.ofNat (n / 256 ^ (k - 1 - j) % 256)
  | k + 1, 0, _ => rfl
  | k + 1, j + 1, h => by
    rw [fixForm, List.getD_cons_succ, fixForm_at n k j (by omega), show k + 1 - 1 - (j + 1) = k - 1 - j by omega]
/-- What a stream's block hides. -/
def ctrB (n i : Nat) : List UInt8 := fixForm n 8 ++ fixForm i 8
theorem ctrB_len (n i : Nat) : (ctrB n i).length = 16 := by unfold ctrB; rw [List.length_append, fixForm_len, fixForm_len]
def ctrP (n i k : Nat) : List UInt8 := fillU (fixForm n 8) 8 k ++ fillU (fixForm i 8) 8 k
theorem ctrP_len (n i : Nat) {k : Nat} (h : k ≤ 8) : (ctrP n i k).length = 16 := by unfold ctrP; rw [List.length_append, fillU_len (fixForm_len n 8) h, fillU_len (fixForm_len i 8) h]
theorem ctrP_zero (n i : Nat) : ctrP n i 0 = List.replicate 16 0 := rfl
theorem ctrP_all (n i : Nat) : ctrP n i 8 = ctrB n i := by unfold ctrP ctrB; rw [fillU_all (fixForm_len n 8), fillU_all (fixForm_len i 8)]
theorem ctrP_step (n i : Nat) {k : Nat} (h : k < 8) : ((ctrP n i k).set k ((fixForm n 8).getD k 0)).set (8 + k) ((fixForm i 8).getD k 0) = ctrP n i (k + 1) := by
  unfold ctrP
  have h1 := fillU_len (fixForm_len n 8) (Nat.le_of_lt h)
  have h2 := fillU_len (fixForm_len n 8) (show k + 1 ≤ 8 by omega)
  rw [List.set_append_left _ _ (by rw [h1]; exact h), fillU_set (fixForm_len n 8) h, List.set_append_right _ _ (by rw [h2]; omega), h2, Nat.add_sub_cancel_left, fillU_set (fixForm_len i 8) h]
/-- The block i of a stream. -/
def blkL (key : List UInt8) (n i : Nat) : List UInt8 := hidL key (ctrB n i)
theorem blkL_len (key : List UInt8) (n i : Nat) : (blkL key n i).length = 16 := hidL_len _ _
theorem cidx (k : Nat) (hk : k < 8) : ∃ m : Nat, m = 7 - k ∧ m ≤ 7 ∧ IntKind.i64.wrap (7 - (k : Int)) = (m : Int) ∧ (7 - (k : Int)) = (m : Int) ∧ IntKind.i64.wrap (8 * (m : Int)) = 8 * (m : Int) ∧ IntKind.u64.wrap (8 * (m : Int)) = 8 * (m : Int) ∧ (8 * (m : Int)).toNat = 8 * m ∧
    IntKind.i64.wrap (8 * (k : Int)) = 8 * (k : Int) ∧ IntKind.i64.wrap (56 - 8 * (k : Int)) = 56 - 8 * (k : Int) ∧ (56 - 8 * (k : Int)).toNat = 8 * m ∧ (0 : Int) ≤ 56 - 8 * (k : Int) ∧ IntKind.i64.wrap (8 + (k : Int)) = 8 + (k : Int) ∧ (8 + (k : Int)).toNat = 8 + k ∧ (0 : Int) ≤ 8 + (k : Int) ∧ 8 + (k : Int) < 16 ∧ 8 * (k : Int) ≤ 56 :=
  ⟨7 - k, rfl, by omega, by rw [IntWalk.i64_in _ (by omega)]; omega, by omega, IntWalk.i64_in _ (by omega), by rw [IntKind.wrap_u64]; omega, by omega, IntWalk.i64_in _ (by omega), IntWalk.i64_in _ (by omega), by omega, by omega, IntWalk.i64_in _ (by omega), by omega, by omega, by omega, by omega⟩
theorem shrF (n k m : Nat) (hm : m = 7 - k) (hk : k < 8) : (n : Int) / 2 ^ (8 * m) % 256 = (((fixForm n 8).getD k 0).toNat : Int) := by
  rw [fixForm_at n 8 k hk, show 8 - 1 - k = m by omega, u8_of _ (by omega)]
  have h := shr8 n m (by omega)
  rw [show (8 * (m : Int)).toNat = 8 * m by omega] at h
  rw [h]
  omega
set_option maxHeartbeats 4000000 in
set_option maxRecDepth 100000 in
theorem crblock_any {ks : List UInt8} {n i : Nat} {w : World} (hk : ks.length = 176) (hn : n < 18446744073709551616) (hi : i < 4611686018427387904) : Calls Try.prog 41 #[.agg (byts ks).toArray, .agg (byts sbox).toArray, .int .u64 (n : Int), .int .i64 (i : Int)] w fun e w' => e = .returned (.agg (byts (hdS ks (ctrB n i) 10)).toArray) ∧ Fr0 w w' := by
  have HRH := Lib.hid (fun W => rhide_any (w := W) hk (ctrB_len n i))
  have OL := Lib.hid (show (hdS ks (ctrB n i) 10).length = 16 from hdS_len _ _ _)
  have HIO := Lib.hid (a16_info OL.out)
  have HZO := Lib.hid (z16_size OL.out)
  have hao := byts_all (hdS ks (ctrB n i) 10)
  have HIB := Lib.hid (a16_info (ctrB_len n i))
  have HIK := Lib.hid (a176_info hk)
  have HIS := Lib.hid (a256_info sbox_len)
  have PL := Lib.hid (fun k (h : k ≤ 8) => ctrP_len n i h)
  have P0 := Lib.hid (ctrP_zero n i)
  have P8 := Lib.hid (ctrP_all n i)
  have PS := Lib.hid (fun k (h : k < 8) => ctrP_step n i h)
  have SN := Lib.hid (fun k m h1 h2 => shrF n k m h1 h2)
  have SI := Lib.hid (fun k m h1 h2 => shrF i k m h1 h2)
  have HRUN := Lib.hid (fun W => z16_run W)
  obtain ⟨wa, hwa⟩ : ∃ W, W = (w.alloc (.cells (byts ks).toArray 74)).alloc (.cells (byts sbox).toArray 72) := ⟨_, rfl⟩
  have FA := Lib.hid (show Fr0 w wa by rw [hwa]; exact ((Fr0.refl w).alloc _).alloc _)
  have K0 := Lib.hid (show Blk wa w.heap.size (byts ks).toArray 74 by rw [hwa]; exact (Blk.new w _ 74).alloc _)
  have S0 := Lib.hid (show Blk wa (w.heap.size + 1) (byts sbox).toArray 72 by rw [hwa]; have := Blk.new (w.alloc (.cells (byts ks).toArray 74)) (byts sbox).toArray 72; simpa using this)
  have has := Lib.hid (show wa.heap.size = w.heap.size + 2 by rw [hwa]; simp)
  obtain ⟨out, hout⟩ : ∃ o, o = hdS ks (ctrB n i) 10 := ⟨_, rfl⟩
  obtain ⟨P, hP⟩ : ∃ o, o = ctrP n i := ⟨_, rfl⟩
  obtain ⟨B, hB⟩ : ∃ o, o = ctrB n i := ⟨_, rfl⟩
  obtain ⟨FN, hFN⟩ : ∃ o, o = fixForm n 8 := ⟨_, rfl⟩
  obtain ⟨FI, hFI⟩ : ∃ o, o = fixForm i 8 := ⟨_, rfl⟩
  rw [← hout] at HRH HIO HZO hao OL ⊢
  rw [← hB] at HRH P8 HIB
  rw [← hP] at PL P0 P8 PS
  rw [← hFN] at SN PS
  rw [← hFI] at SI PS
  obtain ⟨z, hz⟩ : ∃ z, z = z16A := ⟨_, rfl⟩
  rw [← hz] at HRUN HZO
  have HZZ := Lib.hid (hz.trans (show z16A = (byts (List.replicate 16 0)).toArray from rfl))
  obtain ⟨ck, hck⟩ : ∃ c, c = (byts ks).toArray := ⟨_, rfl⟩
  obtain ⟨cs, hcs⟩ : ∃ c, c = (byts sbox).toArray := ⟨_, rfl⟩
  rw [← hck] at K0 HRH HIK hwa ⊢
  rw [← hcs] at S0 HRH HIS hwa ⊢
  clear hout hP hB hFN hFI hz hck hcs hk
  go_enter Try.func41, Try.ntmps41
  go_upto_region 3 with (first
    | (have _q := Z8; refine list_alloc_blk rfl 31 rfl z HRUN.out ?_; intro g9 w9 hB hF hl; have Z9 := Lib.hid hB; have F9 := Lib.hid hF; have L9 := Lib.hid hl; clear hB hF hl)
    | (refine list_alloc_blk rfl 31 rfl z HRUN.out ?_; intro g8 w8 hB hF hl; rw [← hwa] at hF hl; have Z8 := Lib.hid hB; have F8 := Lib.hid hF; have L8 := Lib.hid hl; clear hB hF hl))
  clear hwa
  have l8 := L8.out
  have l9 := L9.out
  have la := has.out
  have lz := (Z8.out).lt
  have s8 := (F8.out).size
  obtain ⟨gt, hgt⟩ : ∃ g, g = w.heap.size + 1 := ⟨_, rfl⟩
  obtain ⟨gk, hgk⟩ : ∃ g, g = w.heap.size := ⟨_, rfl⟩
  rw [← hgt] at S0
  rw [← hgk] at K0
  rw [← hgt, ← hgk]
  have nk9 : gk ≠ g9 := by omega
  have nt9 : gt ≠ g9 := by omega
  have n89 : g8 ≠ g9 := by omega
  have LG8 := Lib.hid (show w.heap.size ≤ g8 by omega)
  have LG9 := Lib.hid (show w.heap.size ≤ g9 by omega)
  have K := Lib.hid (((K0.out).fr0 F8.out).fr0 F9.out)
  have S := Lib.hid (((S0.out).fr0 F8.out).fr0 F9.out)
  have Z := Lib.hid ((Z8.out).fr0 F9.out)
  have F := Lib.hid (Fr0.trans FA.out (Fr0.trans F8.out F9.out))
  have C := Lib.hid (show Blk w9 g9 (byts (P 0)).toArray 31 by rw [P0.out, ← HZZ.out]; exact Z9.out)
  clear l8 l9 la lz s8 hgt hgk K0 S0 F8 F9 L8 L9 Z8 Z9 FA has
  go_loopw [10] (fun v10 wr => ∃ k : Nat, k ≤ 8 ∧ v10 = .int .i64 (k : Int) ∧ Blk wr gk ck 74 ∧ Blk wr gt cs 72 ∧ Blk wr g9 (byts (P k)).toArray 31 ∧ Blk wr g8 z 31 ∧ Fr0 w wr) (fun v10 _ => 8 - (intOf v10).toNat)
  case atStart => exact ⟨0, by omega, rfl, K.out, S.out, C.out, Z.out, F.out⟩
  case round =>
    obtain ⟨k, hk, rfl, hK, hS, hC, hZ, hF⟩ := hrel
    clear K S C Z F
    have K := Lib.hid hK
    have S := Lib.hid hS
    have Z := Lib.hid hZ
    have F := Lib.hid hF
    by_cases hlk : k < 8
    · have k0 : (0 : Int) ≤ (k : Int) := by omega
      have k1 : (k : Int) < 8 := by omega
      have k2 : (k : Int) < 16 := by omega
      obtain ⟨m, hm, hm7, q1, q1', q2, q3, q4, -, -, -, -, q5, q6, q7, q8, -⟩ := cidx k hlk
      have sn := SN.out k m hm hlk
      have si := SI.out k m hm hlk
      have hst := PS.out k hlk
      obtain ⟨x, hx⟩ : ∃ x, x = FN.getD k 0 := ⟨_, rfl⟩
      obtain ⟨y, hy⟩ : ∃ x, x = FI.getD k 0 := ⟨_, rfl⟩
      rw [← hx] at sn hst
      rw [← hy] at si hst
      have u1 : IntKind.u64.wrap (i : Int) = (i : Int) := by rw [IntKind.wrap_u64]; omega
      have c1 := hC.u8 (i := k) (by rw [PL.out k hk]; omega)
      have c2 := hC.u8 (i := 8 + k) (by rw [PL.out k hk]; omega)
      have f1 := hC.free k
      have f2 := hC.free (8 + k)
      have HN := Lib.hid (show Blk ((wr.setCell ⟨g9, k, none⟩ (.int .u8 (x.toNat : Int))).setCell ⟨g9, 8 + k, none⟩ (.int .u8 (y.toNat : Int))) g9 (byts (P (k + 1))).toArray 31 by rw [← hst]; exact (hC.put8 k x).put8 (8 + k) y)
      have FS := Lib.hid (((Fr1.refl g9 wr).set k (.int .u8 (x.toNat : Int))).set (8 + k) (.int .u8 (y.toNat : Int)))
      clear hK hS hC hZ hF hst hx hy hm hm7
      go_wp2_with fail
      clear q1 q1' q2 q3 q4 q5 q6 q7 q8 sn si u1 c1 c2 f1 f2
      go_roundw
      case rel => exact ⟨k + 1, by omega, by go_num, (K.out).fr1 FS.out nk9, (S.out).fr1 FS.out nt9, HN.out, (Z.out).fr1 FS.out n89, Fr0.new F.out FS.out LG9.out⟩
      case measure => simp [intOf]; omega
    · obtain rfl : k = 8 := by omega
      have C := Lib.hid (show Blk wr g9 (byts B).toArray 31 by rw [← P8.out]; exact hC)
      clear hK hS hC hZ hF
      go_wp2_with (first
        | (have _q := F2; refine list_store_blk rfl 31 _ _ rfl g8 (byts out).toArray rfl rfl 31 z Z2.out HIO.out HZO.out hao ?_; intro w12 hB hF; have C5 := Lib.hid hB; have F12 := Lib.hid (Fr0.new F2.out hF LG8.out); clear hB hF)
        | (go_at_call 57; refine (HRH.out _).mono ?_; rintro e w11 ⟨rfl, hf⟩; have F2 := Lib.hid (Fr0.trans F.out hf); have Z2 := Lib.hid ((Z.out).fr0 hf); clear hf)
        | (refine list_load_blk rfl 31 _ rfl g9 rfl 31 (byts B).toArray C.out _ Try.underlying31 rfl HIB.out ?_)
        | (refine list_load_blk rfl 72 _ rfl gt rfl 72 cs S.out _ Try.underlying72 rfl HIS.out ?_)
        | (refine list_load_blk rfl 74 _ rfl gk rfl 74 ck K.out _ Try.underlying74 rfl HIK.out ?_))
      refine bodyPost_ret (v := .agg (byts out).toArray) (results_cell_row rfl _ _ g8 31 (byts out).toArray (0, 0) _ rfl C5.out Try.underlying31 rfl HIO.out) rfl ⟨rfl, F12.out⟩
set_option maxHeartbeats 4000000 in
set_option maxRecDepth 100000 in
theorem pblock_any {key : List UInt8} {n i gn gk : Nat} {w : World} (hk : key.length = 16) (hn : n < 18446744073709551616) (hi : i < 4611686018427387904) (hbn : Blk w gn #[.int .u64 (n : Int)] 22) (hbk : Blk w gk (byts key).toArray 31) :
    Calls Try.prog 48 #[.int .i64 (i : Int), .pointer (some ⟨gn, 0, none⟩), .pointer (some ⟨gk, 0, none⟩)] w fun e w' => e = .returned (.agg (byts (blkL key n i)).toArray) ∧ Fr0 w w' := by
  have HRH := Lib.hid (fun W => show Calls Try.prog 49 #[.agg (byts key).toArray, .agg (byts (ctrB n i)).toArray] W (fun e w' => e = .returned (.agg (byts (blkL key n i)).toArray) ∧ Fr0 W w') from ahide_any hk (ctrB_len n i))
  have OL := Lib.hid (blkL_len key n i)
  have HIO := Lib.hid (a16_info OL.out)
  have HZO := Lib.hid (z16_size OL.out)
  have hao := byts_all (blkL key n i)
  have HIB := Lib.hid (a16_info (ctrB_len n i))
  have HIK := Lib.hid (a16_info hk)
  have PL := Lib.hid (fun k (h : k ≤ 8) => ctrP_len n i h)
  have P0 := Lib.hid (ctrP_zero n i)
  have P8 := Lib.hid (ctrP_all n i)
  have PS := Lib.hid (fun k (h : k < 8) => ctrP_step n i h)
  have SN := Lib.hid (fun k m h1 h2 => shrF n k m h1 h2)
  have SI := Lib.hid (fun k m h1 h2 => shrF i k m h1 h2)
  have HRUN := Lib.hid (fun W => z16_run W)
  have BN := Lib.hid hbn
  have BK := Lib.hid hbk
  obtain ⟨out, hout⟩ : ∃ o, o = blkL key n i := ⟨_, rfl⟩
  obtain ⟨P, hP⟩ : ∃ o, o = ctrP n i := ⟨_, rfl⟩
  obtain ⟨B, hB⟩ : ∃ o, o = ctrB n i := ⟨_, rfl⟩
  obtain ⟨FN, hFN⟩ : ∃ o, o = fixForm n 8 := ⟨_, rfl⟩
  obtain ⟨FI, hFI⟩ : ∃ o, o = fixForm i 8 := ⟨_, rfl⟩
  rw [← hout] at HRH HIO HZO hao OL ⊢
  rw [← hB] at HRH P8 HIB
  rw [← hP] at PL P0 P8 PS
  rw [← hFN] at SN PS
  rw [← hFI] at SI PS
  obtain ⟨z, hz⟩ : ∃ z, z = z16A := ⟨_, rfl⟩
  rw [← hz] at HRUN HZO
  have HZZ := Lib.hid (hz.trans (show z16A = (byts (List.replicate 16 0)).toArray from rfl))
  obtain ⟨ck, hck⟩ : ∃ c, c = (byts key).toArray := ⟨_, rfl⟩
  rw [← hck] at BK HRH HIK
  clear hout hP hB hFN hFI hz hck hk hbn hbk
  go_enter Try.func48, Try.ntmps48
  go_upto_region 3 with (first
    | (have _q := Z8; refine list_alloc_blk rfl 31 rfl z HRUN.out ?_; intro g9 w9 hB hF hl; have Z9 := Lib.hid hB; have F9 := Lib.hid hF; have L9 := Lib.hid hl; clear hB hF hl)
    | (refine list_alloc_blk rfl 31 rfl z HRUN.out ?_; intro g8 w8 hB hF hl; have Z8 := Lib.hid hB; have F8 := Lib.hid hF; have L8 := Lib.hid hl; clear hB hF hl))
  have l8 := L8.out
  have l9 := L9.out
  have lz := (Z8.out).lt
  have s8 := (F8.out).size
  have ln := (BN.out).lt
  have lk := (BK.out).lt
  have nk9 : gk ≠ g9 := by omega
  have nn9 : gn ≠ g9 := by omega
  have n89 : g8 ≠ g9 := by omega
  have LG8 := Lib.hid (show w.heap.size ≤ g8 by omega)
  have LG9 := Lib.hid (show w.heap.size ≤ g9 by omega)
  have K := Lib.hid (((BK.out).fr0 F8.out).fr0 F9.out)
  have N := Lib.hid (((BN.out).fr0 F8.out).fr0 F9.out)
  have Z := Lib.hid ((Z8.out).fr0 F9.out)
  have F := Lib.hid (Fr0.trans F8.out F9.out)
  have C := Lib.hid (show Blk w9 g9 (byts (P 0)).toArray 31 by rw [P0.out, ← HZZ.out]; exact Z9.out)
  clear l8 l9 lz s8 ln lk F8 F9 L8 L9 Z8 Z9 BN BK
  go_loopw [7] (fun v7 wr => ∃ k : Nat, k ≤ 8 ∧ v7 = .int .i64 (k : Int) ∧ Blk wr gk ck 31 ∧ Blk wr gn #[.int .u64 (n : Int)] 22 ∧ Blk wr g9 (byts (P k)).toArray 31 ∧ Blk wr g8 z 31 ∧ Fr0 w wr) (fun v7 _ => 8 - (intOf v7).toNat)
  case atStart => exact ⟨0, by omega, rfl, K.out, N.out, C.out, Z.out, F.out⟩
  case round =>
    obtain ⟨k, hk, rfl, hK, hN, hC, hZ, hF⟩ := hrel
    clear K N C Z F
    have K := Lib.hid hK
    have N := Lib.hid hN
    have Z := Lib.hid hZ
    have F := Lib.hid hF
    by_cases hlk : k < 8
    · have k0 : (0 : Int) ≤ (k : Int) := by omega
      have k1 : (k : Int) < 8 := by omega
      have k2 : (k : Int) < 16 := by omega
      obtain ⟨m, hm, hm7, -, -, -, -, -, q1, q2, q3, q4, q5, q6, q7, q8, q9⟩ := cidx k hlk
      have sn := SN.out k m hm hlk
      have si := SI.out k m hm hlk
      have hst := PS.out k hlk
      have cn := hN.cell 0 rfl
      obtain ⟨x, hx⟩ : ∃ x, x = FN.getD k 0 := ⟨_, rfl⟩
      obtain ⟨y, hy⟩ : ∃ x, x = FI.getD k 0 := ⟨_, rfl⟩
      rw [← hx] at sn hst
      rw [← hy] at si hst
      have u1 : IntKind.u64.wrap (i : Int) = (i : Int) := by rw [IntKind.wrap_u64]; omega
      have c1 := hC.u8 (i := k) (by rw [PL.out k hk]; omega)
      have c2 := hC.u8 (i := 8 + k) (by rw [PL.out k hk]; omega)
      have f1 := hC.free k
      have f2 := hC.free (8 + k)
      have HN := Lib.hid (show Blk ((wr.setCell ⟨g9, k, none⟩ (.int .u8 (x.toNat : Int))).setCell ⟨g9, 8 + k, none⟩ (.int .u8 (y.toNat : Int))) g9 (byts (P (k + 1))).toArray 31 by rw [← hst]; exact (hC.put8 k x).put8 (8 + k) y)
      have FS := Lib.hid (((Fr1.refl g9 wr).set k (.int .u8 (x.toNat : Int))).set (8 + k) (.int .u8 (y.toNat : Int)))
      clear hK hN hC hZ hF hst hx hy hm hm7
      go_wp2_with fail
      clear q1 q2 q3 q4 q5 q6 q7 q8 q9 sn si u1 c1 c2 f1 f2 cn
      go_roundw
      case rel => exact ⟨k + 1, by omega, by go_num, (K.out).fr1 FS.out nk9, (N.out).fr1 FS.out nn9, HN.out, (Z.out).fr1 FS.out n89, Fr0.new F.out FS.out LG9.out⟩
      case measure => simp [intOf]; omega
    · obtain rfl : k = 8 := by omega
      have C := Lib.hid (show Blk wr g9 (byts B).toArray 31 by rw [← P8.out]; exact hC)
      clear hK hN hC hZ hF
      go_wp2_with (first
        | (have _q := F2; refine list_store_blk rfl 31 _ _ rfl g8 (byts out).toArray rfl rfl 31 z Z2.out HIO.out HZO.out hao ?_; intro w12 hB hF; have C5 := Lib.hid hB; have F12 := Lib.hid (Fr0.new F2.out hF LG8.out); clear hB hF)
        | (go_at_call 49; refine (HRH.out _).mono ?_; rintro e w11 ⟨rfl, hf⟩; have F2 := Lib.hid (Fr0.trans F.out hf); have Z2 := Lib.hid ((Z.out).fr0 hf); clear hf)
        | (refine list_load_blk rfl 31 _ rfl g9 rfl 31 (byts B).toArray C.out _ Try.underlying31 rfl HIB.out ?_)
        | (refine list_load_blk rfl 31 _ rfl gk rfl 31 ck K.out _ Try.underlying31 rfl HIK.out ?_))
      refine bodyPost_ret (v := .agg (byts out).toArray) (results_cell_row rfl _ _ g8 31 (byts out).toArray (0, 0) _ rfl C5.out Try.underlying31 rfl HIO.out) rfl ⟨rfl, F12.out⟩
end Go.Proofs.Ytpmindbipclphaa
namespace Go.Proofs.Ytpmindbipclphaa
open Go.RowKit

theorem app_bytes {ops : Array Oper} {rest : List Oper} {o : Oper} {a : Act} {Q : Exit → Act → World → Prop} (hgd : o.guard = none) (s x : Operand)
    (ho : o.op = .call { callee := .builtin .append, args := #[s, x], argTypes := #[35, 35] }) {w0 w : World} (hf : Fr0 w0 w) {v1 v2 : Value} {L1 L2 : List UInt8} {k1 k2 : Nat}
    (h1 : w.ownsRow w0.heap.size 5 1 v1 k1 (byts L1)) (hs : a.eval s = v1) (h2 : Rd w 1 v2 k2 (byts L2)) (hx : a.eval x = v2) (hl : k1 + k2 ≤ 100000000)
    (h : ∀ A c w', w'.ownsRow w0.heap.size 5 1 (.slice A (k1 + k2) c) (k1 + k2) (byts (L1 ++ L2)) → Fr0 w0 w' → wpList Try.prog ops Q rest (a.put o.dst (.slice A (k1 + k2) c)) w') :
    wpList Try.prog ops Q (o :: rest) a w := by
  obtain ⟨i0, hi, hz0, hz1, hz2⟩ := info_parts infoU8
  refine wpList_append_rd _ hgd s x 35 ho w0.heap.size 5 i0 (.int .u8 0) 1 1 Try.underlying35 hi hz0 hz1 hz2 rfl (by decide) v1 k1 (byts L1) hs h1 v2 k2 (byts L2) hx h2 (byts_one L2) (by unfold maxLen; omega) (by omega) hf.size ?_
  intro v' w' hown hgrow
  rw [← byts_app] at hown
  obtain ⟨A, c, rfl, -, -, -⟩ := own_form hown
  exact h A c w' hown (Fr.grown hf hgrow (fun k hk => .inr (own_lt' h1 k hk).1))
theorem rdb_of {w : World} {v : Value} {k : Nat} {d : List UInt8} (h : Rd w 1 v k (byts d)) : RdB w v d := by
  have := h.len
  rw [byts_len] at this
  obtain rfl : d.length = k := by omega
  exact h
theorem rd_oneW (w : World) (x : Int) : Rd (w.alloc (.cells #[.int .u8 x] 5)) 1 (.slice (some ⟨w.heap.size, 0, none⟩) 1 1) 1 [.int .u8 x] :=
  ⟨rfl, ⟨_, _, rfl, Nat.le_refl _, by unfold maxLen; omega, fun h => by cases h⟩, fun _ => ⟨w.heap.size, 0, 1, _, _, _, rfl, heap_alloc_new w _, fun j u hu => by simpa using hu⟩⟩
theorem one_cell (x : Int) : ∀ u ∈ [Value.int .u8 x], u.oneCell' = true := by simp [Value.oneCell']
end Go.Proofs.Ytpmindbipclphaa
namespace Go.Proofs.Ytpmindbipclphaa
open Go.RowKit

theorem zeroCells_u8 (n : Nat) : Builtin.zeroCells (Value.int .u8 0).cells n = (List.replicate n (Value.int .u8 0)).toArray := by
  apply Array.ext
  · simp [Builtin.zeroCells, Value.cells]
  · intro i h1 h2
    simp [Builtin.zeroCells, Value.cells, Nat.mod_one]
theorem byts_zeros (n : Nat) : byts (List.replicate n 0) = List.replicate n (Value.int .u8 0) := by simp [byts]

theorem run_app_zeros {P : Program} (w : World) (base : Nat) (t tn ty e : TypeId) (i : TypeInfo) (kn : IntKind) (ht : P.underlying t = some (.slice e)) (htn : P.underlying tn = some (.int kn)) (hi : P.info? e = some i)
    (hz : i.zero = some (.int .u8 0)) (hsize : i.size = 1) (hby : i.bytes = 1)
    (v : Value) (k : Nat) (xs : List Value) (hown : w.ownsRow base e 1 v k xs) (n : Nat) (h63 : k + n ≤ 100000000) (hbase : base ≤ w.heap.size) :
    ∃ v' w', (Builtin.append_ #[t, tn] ty #[v, .int .i64 n]).run P w = .ok v' w' ∧ w'.ownsRow base e 1 v' (k + n) (xs ++ List.replicate n (.int .u8 0)) ∧ w.grownBy w' v.ownBlock := by
  have hw : IntKind.i64.wrap (n : Int) = n := by rw [IntKind.wrap_i64]; omega
  have hneg : ¬ ((n : Int) < 0) := by omega
  have h48i : ¬ (281474976710656 < (n : Int)) := by omega
  have hlen : (xs ++ List.replicate n (Value.int .u8 0)).length = (k + n) * 1 := by rw [List.length_append, hown.1, List.length_replicate]; omega
  have grown : ∀ (old : Nat), old < k + n → ∀ (row : Option Nat),
      (w.drew.alloc (.cells (xs.toArray ++ Builtin.zeroCells (Value.int .u8 0).cells n ++ Builtin.zeroCells (Value.int .u8 0).cells (grownCap w (k + n) old e - (k + n))) e)).ownsRow base e 1
        (.slice (some ⟨w.heap.size, 0, none⟩) (k + n) (grownCap w (k + n) old e)) (k + n) (xs ++ List.replicate n (.int .u8 0)) ∧
      w.grownBy (w.drew.alloc (.cells (xs.toArray ++ Builtin.zeroCells (Value.int .u8 0).cells n ++ Builtin.zeroCells (Value.int .u8 0).cells (grownCap w (k + n) old e - (k + n))) e)) row := by
    intro old ho row
    have hge := grownCap_ge w (k + n) old e
    have hcm : grownCap w (k + n) old e ≤ maxLen := grownCap_le_maxLen w (k + n) old e (by unfold maxLen; omega)
    have hx : xs.length = k := by have := hown.1; omega
    refine ⟨⟨hlen, .inr ⟨w.heap.size, _, _, rfl, hbase, heap_alloc_new w.drew _, hge, hcm, ?_, ?_⟩⟩, ⟨rfl, rfl, rfl, by simp, fun j hj _ => heap_alloc_old w.drew _ hj⟩⟩
    · simp only [Array.size_append, List.size_toArray, size_zeroCells, hx, Value.cells]
      simp
      omega
    · rw [zeroCells_u8]
      simp only [Array.toList_append, List.append_assoc]
      rw [← List.append_assoc, ← hlen]
      exact List.take_left
  rcases hown.2 with ⟨rfl, rfl⟩ | ⟨g, cap, cur, rfl, hbg, hg, hnc, hcm, hcs, htake⟩
  · have hx : xs = [] := List.eq_nil_of_length_eq_zero (by simpa using hown.1)
    subst hx
    by_cases hm : n = 0
    · subst hm
      refine ⟨.slice none 0 0, w, ?_, World.ownsRow_nil w base e 1, ⟨rfl, rfl, rfl, Nat.le_refl _, fun _ _ _ => rfl⟩⟩
      simp [Builtin.append_, run_underlying ht, run_underlying htn, sizeOf, typeInfo, hi, asInt, asIntOf, IntKind.wrap_i64]
    · have hr := Lib.run_append_nil_zeros (P := P) w t tn ty e i (.int .u8 0) .i64 kn ht htn hi hz n (by omega) (by omega) (by omega) (by rw [hby]; omega)
      have hgr := grown 0 (by omega) (Value.ownBlock (.slice none 0 0))
      simp only [Nat.zero_add, List.nil_append, Array.empty_append] at hgr ⊢
      exact ⟨_, _, hr, hgr.1, hgr.2⟩
  · by_cases hroom : k + n ≤ cap
    · have hst := run_storeCells_at P g k e (List.replicate n (Value.int .u8 0)) 0 cur w hg (by simp; omega) (by intro u hu; rw [List.eq_of_mem_replicate hu]; rfl)
      simp only [Nat.add_zero] at hst
      have hrun : (Builtin.append_ #[t, tn] ty #[.slice (some ⟨g, 0, none⟩) k cap, .int .i64 n]).run P w = .ok (.slice (some ⟨g, 0, none⟩) (k + n) cap) (w.setRow g (cur.toList.take k ++ List.replicate n (Value.int .u8 0) ++ cur.toList.drop (k + n)).toArray) := by
        by_cases hm : n = 0
        · subst hm
          simp only [List.replicate_zero] at hst ⊢
          simp [Builtin.append_, run_underlying ht, run_underlying htn, sizeOf, typeInfo, hi, hsize, hby, asInt, asIntOf, IntKind.wrap_i64, hnc, Addr.add_lit, hst]
        · simp [Builtin.append_, run_underlying ht, run_underlying htn, sizeOf, typeInfo, zeroValue, hi, hz, hsize, hby, asInt, asIntOf, hw, hneg, h48i, hm, hroom, Addr.add_lit, zeroCells_u8, hst]
      refine ⟨_, _, hrun, ⟨hlen, .inr ⟨g, cap, _, rfl, hbg, setRow_heap w g cur _ e _ hg, hroom, hcm, ?_, ?_⟩⟩, ⟨rfl, rfl, rfl, by simp, fun j _ hj => setRow_other w g j _ (fun e => hj (by simp [Value.ownBlock, e]))⟩⟩
      · simp
        omega
      · rw [← hlen, show cur.toList.take k = xs from by rw [← htake, Nat.mul_one]]
        exact List.take_left
    · have hfo := run_firstCells_some (P := P) w.drew i.size k ⟨g, 0, none⟩ k cap xs (by rw [hsize]; exact hown.1) (by simpa using hown.cells (g := g) rfl)
      have hm : n ≠ 0 := by omega
      have hfit := growslice_fits (need := k + n) (old := cap) (bytes := 1) (by omega) (by omega)
      have h48' : ¬ (281474976710656 < Builtin.nextslicecap (k + n) cap) := by omega
      have h63' : ¬ (9223372036854775807 < ((k : Int) + (n : Int))) := by omega
      have hgr := grown cap (by omega) (Value.ownBlock (.slice (some ⟨g, 0, none⟩) k cap))
      refine ⟨_, _, ?_, hgr.1, hgr.2⟩
      simp only [hsize] at hfo
      simp [Builtin.append_, run_underlying ht, run_underlying htn, sizeOf, typeInfo, zeroValue, hi, hz, hsize, hby, asInt, asIntOf, hw, hneg, h48i, hm, hroom, h63', h48', Question.forced, hfo, newRow, grownCap]

theorem app_zeros {ops : Array Oper} {rest : List Oper} {o : Oper} {a : Act} {Q : Exit → Act → World → Prop} (hgd : o.guard = none) (s x : Operand)
    (ho : o.op = .call { callee := .builtin .append, args := #[s, x], argTypes := #[35, 3] }) {w0 w : World} (hf : Fr0 w0 w) {v1 : Value} {L1 : List UInt8} {k1 n : Nat}
    (h1 : w.ownsRow w0.heap.size 5 1 v1 k1 (byts L1)) (hs : a.eval s = v1) (hx : a.eval x = .int .i64 n) (hl : k1 + n ≤ 100000000)
    (h : ∀ A c w', w'.ownsRow w0.heap.size 5 1 (.slice A (k1 + n) c) (k1 + n) (byts (L1 ++ List.replicate n 0)) → Fr0 w0 w' → wpList Try.prog ops Q rest (a.put o.dst (.slice A (k1 + n) c)) w') :
    wpList Try.prog ops Q (o :: rest) a w := by
  obtain ⟨i0, hi, hz0, hz1, hz2⟩ := info_parts infoU8
  obtain ⟨v', w', hr, hown, hgrow⟩ := run_app_zeros (P := Try.prog) w w0.heap.size 35 3 o.type 5 i0 .i64 Try.underlying35 Try.underlying3 hi hz0 hz1 hz2 v1 k1 (byts L1) h1 n hl hf.size
  refine Lib.wpList_append_run _ hgd s x _ _ ho _ _ hs hx _ _ hr ?_
  rw [← byts_zeros, ← byts_app] at hown
  obtain ⟨A, c, rfl, -, -, -⟩ := own_form hown
  exact h A c w' hown (Fr.grown hf hgrow (fun j hj => .inr (own_lt' h1 j hj).1))
end Go.Proofs.Ytpmindbipclphaa
namespace Go.Proofs.Ytpmindbipclphaa
open Go.RowKit
variable {P : Program} {ops : Array Oper} {o : Oper} {a : Act} {w : World} {K : Act → World → Prop} {Q : Exit → Act → World → Prop} {rest : List Oper}
theorem wp_built_blk (t e : TypeId) (n : Nat) (parts : Array (Nat × Operand)) (ho : o.op = .buildSlice t n parts) (cells : Array Value)
    (hrun : ∀ W : World, (Instr.buildSlice t n (parts.map fun (i, x) => (i, a.eval x))).run P W = .ok (.slice (some ⟨W.heap.size, 0, none⟩) n n) (W.alloc (.cells cells e)))
    (h : ∀ g W1, Blk W1 g cells e → Fr0 w W1 → w.heap.size ≤ g → K (a.put o.dst (.slice (some ⟨g, 0, none⟩) n n)) W1) : Oper.wp P o a w K Q := by
  unfold Oper.wp execOp
  simp only [ho, Sem.run_bind, Sem.run_pure, Result.andThen_ok, hrun]
  exact h _ _ (Blk.new w cells e) ((Fr0.refl w).alloc _) (Nat.le_refl _)
theorem list_built_blk (hgd : o.guard = none) (t e : TypeId) (n : Nat) (parts : Array (Nat × Operand)) (ho : o.op = .buildSlice t n parts) (cells : Array Value)
    (hrun : ∀ W : World, (Instr.buildSlice t n (parts.map fun (i, x) => (i, a.eval x))).run P W = .ok (.slice (some ⟨W.heap.size, 0, none⟩) n n) (W.alloc (.cells cells e)))
    (h : ∀ g W1, Blk W1 g cells e → Fr0 w W1 → w.heap.size ≤ g → wpList P ops Q rest (a.put o.dst (.slice (some ⟨g, 0, none⟩) n n)) W1) : wpList P ops Q (o :: rest) a w :=
  wpList_plain hgd fun _ hK => wp_built_blk t e n parts ho cells hrun (fun g W1 h1 h2 h3 => hK _ _ (h g W1 h1 h2 h3))
theorem infoB2 : (Try.prog.info? 5).map (fun i => (i.zero, i.size, i.bytes)) = some (some (.int .u8 0), 1, 1) := by kernel_rfl
/-- The block of a row of the call's own. -/
def ownB (v : Value) (k : Nat) : Prop := v.ownBlock = some k
/-- append of bytes onto a row of the call's own. -/
theorem wp_append_own {base : Nat} {v v2 : Value} {n : Nat} {d e : List UInt8} (s x : Operand) (ho : o.op = .call { callee := .builtin .append, args := #[s, x], argTypes := #[35, 35] })
    (hb : base ≤ w.heap.size) (hown : w.ownsRow base 5 1 v n (byts d)) (hs : a.eval s = v) (hr : RdB w v2 e) (hx : a.eval x = v2) (hl : n + e.length ≤ 100000000)
    (hK : ∀ A c w', w'.ownsRow base 5 1 (.slice A (n + e.length) c) (n + e.length) (byts (d ++ e)) → Fr (ownB v) w w' → K (a.put o.dst (.slice A (n + e.length) c)) w') :
    Oper.wp Try.prog o a w K Q := by
  obtain ⟨i, hi, hz0, hz1, hz2⟩ := info_parts infoB2
  obtain ⟨A2, c2, rfl, hnc, hcm, hnone⟩ := hr.form
  have hrun : ∃ A c w', (Builtin.append_ #[35, 35] o.type #[v, .slice A2 e.length c2]).run Try.prog w = .ok (.slice A (n + e.length) c) w' ∧ w'.ownsRow base 5 1 (.slice A (n + e.length) c) (n + e.length) (byts d ++ byts e) ∧ Fr (ownB v) w w' := by
    cases A2 with
    | some ad =>
      obtain ⟨v', w', hrun, hown', hgrow, -⟩ := run_append_own (P := Try.prog) w base 35 o.type 5 i _ 1 1 Try.underlying35 hi hz0 hz1 hz2 rfl (by decide) v n (byts d) hown ad e.length c2 (byts e) (byts_len e) (fun j u hu => Rd.news hr j u hu) (byts_one e) (by unfold maxLen; omega) (by omega) hb
      obtain ⟨A', c', rfl, -, -, -⟩ := own_form hown'
      exact ⟨A', c', w', hrun, hown', Fr.grown (Fr.refl _ _) hgrow (fun j hj => .inl hj)⟩
    | none =>
      have hc : c2 = 0 := hnone rfl
      have hm : e = [] := List.eq_nil_of_length_eq_zero (by omega)
      subst hc hm
      have hrun := run_append_none (P := Try.prog) w base 35 35 o.type 5 5 i Try.underlying35 Try.underlying35 hi v n (byts d) (by rw [hz1]; exact hown) 0
      obtain ⟨A', c', rfl, -, -, -⟩ := own_form hown
      exact ⟨A', c', w, hrun, by simpa [byts] using hown, Fr.refl _ _⟩
  obtain ⟨A, c, w', hrun, hown', hf⟩ := hrun
  unfold Oper.wp execOp
  simp only [ho, resolve, invoke, builtin, Sem.run_bind, Sem.run_pure, Result.andThen_ok, List.map_toArray, List.map_cons, List.map_nil, hs, hx, hrun]
  refine hK A c w' ?_ hf
  rw [byts_app]
  exact hown'
/-- append of so many noughts. -/
theorem wp_append_zeros {base : Nat} {v : Value} {n m : Nat} {d : List UInt8} (s x : Operand) (ho : o.op = .call { callee := .builtin .append, args := #[s, x], argTypes := #[35, 3] })
    (hb : base ≤ w.heap.size) (hown : w.ownsRow base 5 1 v n (byts d)) (hs : a.eval s = v) (hx : a.eval x = .int .i64 m) (hl : n + m ≤ 100000000)
    (hK : ∀ A c w', w'.ownsRow base 5 1 (.slice A (n + m) c) (n + m) (byts (d ++ List.replicate m 0)) → Fr (ownB v) w w' → K (a.put o.dst (.slice A (n + m) c)) w') :
    Oper.wp Try.prog o a w K Q := by
  obtain ⟨i, hi, hz0, hz1, hz2⟩ := info_parts infoB2
  obtain ⟨v', w', hrun, hown', hgrow⟩ := run_app_zeros (P := Try.prog) w base 35 3 o.type 5 i .i64 Try.underlying35 Try.underlying3 hi hz0 hz1 hz2 v n (byts d) hown m hl hb
  obtain ⟨A, c, rfl, -⟩ := own_form hown'
  unfold Oper.wp execOp
  simp only [ho, resolve, invoke, builtin, Sem.run_bind, Sem.run_pure, Result.andThen_ok, List.map_toArray, List.map_cons, List.map_nil, hs, hx, hrun]
  refine hK A c w' ?_ (Fr.grown (Fr.refl _ _) hgrow (fun j hj => .inl hj))
  rw [byts_app, byts_zeros]
  exact hown'
end Go.Proofs.Ytpmindbipclphaa
namespace Go.Proofs.Ytpmindbipclphaa
open Go.RowKit
theorem SlO.low {b0 b1 : Nat} {w : World} {v : Value} {d : List UInt8} (h : SlO b1 w v d) (hb : b0 ≤ b1) : SlO b0 w v d := by
  rcases h with h | ⟨g, off, c, cur, hv, hg, rest⟩
  · exact .inl h
  · exact .inr ⟨g, off, c, cur, hv, by omega, rest⟩
theorem SlO.put {base n c : Nat} {w : World} {A : Option Addr} {d : List UInt8} (h : SlO base w (.slice A n c) d) {j : Nat} (hj : j < d.length) :
    ∃ g off u, A = some ⟨g, off, none⟩ ∧ j < c ∧ w.cell? ⟨g, off + j, none⟩ = some u ∧ w.frozen? ⟨g, off + j, none⟩ = false ∧ ∀ b : UInt8, SlO base (w.setCell ⟨g, off + j, none⟩ (.int .u8 b.toNat)) (.slice A n c) (d.set j b) ∧ Fr (inBlk (.slice A n c)) w (w.setCell ⟨g, off + j, none⟩ (.int .u8 b.toNat)) := by
  rcases h with ⟨_, rfl⟩ | ⟨g, off, c', cur, hv, hb, hg, h1, h2, h3, h4⟩
  · simp at hj
  · injection hv with hA hn hc
    subst hA hc
    subst hn
    have hs : off + j < cur.size := by omega
    refine ⟨g, off, cur[off + j], rfl, by omega, hg.cell _ (Array.getElem?_eq_getElem hs), hg.free _, fun b => ⟨.inr ⟨g, off, c, _, by rw [List.length_set], hb, hg.set (off + j) _, by simpa using h1, by simpa using h2, h3, fun i u hu => ?_⟩, Fr.mono ((Fr1.refl g w).set (off + j) _) (fun k hk => by rw [hk]; rfl)⟩⟩
    rw [byts, List.getElem?_map, List.getElem?_set] at hu
    by_cases hij : j = i
    · subst hij
      rw [if_pos rfl, if_pos hj] at hu
      rw [Array.getElem?_setIfInBounds, if_pos rfl, if_pos hs]
      exact hu
    · rw [if_neg hij] at hu
      rw [Array.getElem?_setIfInBounds, if_neg (by omega)]
      exact h4 i u (by rw [byts, List.getElem?_map]; exact hu)
theorem SlO.new0 {base : Nat} {w : World} (hb : base ≤ w.heap.size) : SlO base (w.alloc (.cells #[] 5)) (.slice (some ⟨w.heap.size, 0, none⟩) 0 0) [] :=
  .inr ⟨w.heap.size, 0, 0, #[], rfl, hb, Blk.new w #[] 5, by simp, Nat.le_refl _, by unfold maxLen; omega, fun j u hu => by cases hu⟩
theorem SlO.thenFr {w w1 w2 : World} {v : Value} {d : List UInt8} (s : SlO w.heap.size w1 v d) (h : Fr0 w w1) (k : Fr (inBlk v) w1 w2) : Fr0 w w2 := Fr.then h k (fun i hi hlt => absurd (s.lo i hi).1 (by omega))
end Go.Proofs.Ytpmindbipclphaa
namespace Go.Proofs.Ytpmindbipclphaa
theorem rd64 {w : World} {g : Nat} {d : List UInt8} {t : TypeId} (h : Blk w g (byts d).toArray t) {n : Nat} (hn : d.length = n) (hm : n ≤ 1000) : RdB w (.slice (some ⟨g, 0, none⟩) n n) d := by
  have h1 := arr_rd h (o := 0) (k := n) (c := n) (by omega) (Nat.le_refl _) (by unfold maxLen; omega)
  rw [List.drop_zero, List.take_of_length_le (Nat.le_of_eq hn)] at h1
  exact h1
end Go.Proofs.Ytpmindbipclphaa
set_option linter.unusedSimpArgs false
set_option linter.unusedVariables false
namespace Go.Proofs.Ytpmindbipclphaa
open Go.RowKit

theorem Fr.cell {S : Nat → Prop} {w w' : World} {p : Addr} {v : Value} (h : Fr S w w') (hs : ¬ S p.block) (hc : w.cell? p = some v) : w'.cell? p = some v :=
  (World.cell?_of_block (h.block p.block (World.block_lt_of_cell? w p hc) hs)).trans hc
/-- A stream's byte. -/
def strB (key : List UInt8) (n i : Nat) : UInt8 := (blkL key n (i / 16)).getD (i % 16) 0
/-- A text turned. -/
def tnL (key : List UInt8) (n : Nat) (text : List UInt8) : List UInt8 := (List.range text.length).map fun i => text.getD i 0 ^^^ strB key n i
theorem tnL_len (key : List UInt8) (n : Nat) (text : List UInt8) : (tnL key n text).length = text.length := by simp [tnL]
theorem tnL_at (key : List UInt8) (n : Nat) (text : List UInt8) {i : Nat} (h : i < text.length) : (tnL key n text).getD i 0 = text.getD i 0 ^^^ strB key n i := by simp [tnL, List.getD, h]
theorem take_more {T : List UInt8} {i : Nat} (h : i < T.length) : T.take (i + 1) = T.take i ++ [T.getD i 0] := by
  rw [List.take_add_one, show T[i]? = some (T.getD i 0) from by simp [List.getD, h]]; rfl
set_option maxHeartbeats 4000000 in
set_option maxRecDepth 100000 in
theorem rturn5_any {key text : List UInt8} {n : Nat} {tv : Value} {w : World} (hk : key.length = 16) (hn : n < 18446744073709551616) (ht : RdB w tv text) (htl : text.length ≤ 100000) :
    Calls Try.prog 25 #[.agg (byts key).toArray, .int .u64 (n : Int), .int .i64 0, tv] w fun e w' => ∃ A c, e = .returned (.slice A text.length c) ∧ SlO w.heap.size w' (.slice A text.length c) (tnL key n text) ∧ Fr0 w w' := by
  obtain ⟨At, ct, rfl, -, -, -⟩ := ht.form
  have HTX := Lib.hid (show RdB w (.slice At text.length ct) text from ht)
  have HTB := Lib.hid (fun W => rtable_any W)
  have HRR := Lib.hid (fun W => rrounds_any (w := W) hk)
  have HRB := Lib.hid (fun (i : Nat) (hi : i < 4611686018427387904) W => show Calls Try.prog 41 #[.agg (byts (ksL key)).toArray, .agg (byts sbox).toArray, .int .u64 (n : Int), .int .i64 (i : Int)] W (fun e w' => e = .returned (.agg (byts (blkL key n i)).toArray) ∧ Fr0 W w') from crblock_any (ksL_len key) hn hi)
  have BL := Lib.hid (fun i => blkL_len key n i)
  have OL := Lib.hid (tnL_len key n text)
  have OA := Lib.hid (fun i (h : i < text.length) => show (tnL key n text).getD i 0 = text.getD i 0 ^^^ (blkL key n (i / 16)).getD (i % 16) 0 from tnL_at key n text h)
  have HIA := Lib.hid (fun (d : List UInt8) (h : d.length = 16) => a16_info h)
  have HSZ := Lib.hid (fun (d e : List UInt8) (h : d.length = 16) (h2 : e.length = 16) => show (byts d).toArray.size = (byts e).toArray.size by rw [byts_size, byts_size, h, h2])
  have HAA := Lib.hid (fun (d : List UInt8) => byts_all d)
  have HI256 := Lib.hid (a256_info sbox_len)
  have HZ256 := Lib.hid (show (byts (List.replicate 256 0)).toArray.size = (byts sbox).toArray.size by rw [byts_size, byts_size, sbox_len, List.length_replicate])
  have hs1 := byts_all sbox
  have HIR := Lib.hid (a176_info (ksL_len key))
  have HZR := Lib.hid (show z176A.size = (byts (ksL key)).toArray.size by rw [byts_size, ksL_len]; rfl)
  have hsr := byts_all (ksL key)
  have HKI := Lib.hid (a16_info hk)
  have K0 := Lib.hid (Blk.new w (byts key).toArray 31)
  have HRUN16 := Lib.hid (fun W => z16_run W)
  have HRUN256 := Lib.hid (fun W => z256_run W)
  have HRUNR := Lib.hid (fun W => z176_run W)
  obtain ⟨B, hB⟩ : ∃ b, b = blkL key n := ⟨_, rfl⟩
  rw [← hB] at HRB BL OA
  obtain ⟨T, hT⟩ : ∃ b, b = tnL key n text := ⟨_, rfl⟩
  rw [← hT] at OL OA ⊢
  obtain ⟨ck, hck⟩ : ∃ c, c = (byts key).toArray := ⟨_, rfl⟩
  rw [← hck] at K0 HKI HRR ⊢
  obtain ⟨cs, hcs⟩ : ∃ c, c = (byts sbox).toArray := ⟨_, rfl⟩
  rw [← hcs] at HTB HRR HRB HI256 HZ256 hs1
  obtain ⟨cr, hcr⟩ : ∃ c, c = (byts (ksL key)).toArray := ⟨_, rfl⟩
  rw [← hcr] at HRR HRB HIR HZR hsr
  obtain ⟨z16, hz16⟩ : ∃ z, z = z16A := ⟨_, rfl⟩
  have HZ16 := Lib.hid (hz16.trans (show z16A = (byts (List.replicate 16 0)).toArray from rfl))
  obtain ⟨z256, hz256⟩ : ∃ z, z = (byts (List.replicate 256 0)).toArray := ⟨_, rfl⟩
  obtain ⟨zr, hzr⟩ : ∃ z, z = z176A := ⟨_, rfl⟩
  rw [← hz16] at HRUN16
  rw [← hz256] at HRUN256 HZ256
  rw [← hzr] at HRUNR HZR
  obtain ⟨len, hlen⟩ : ∃ l, l = text.length := ⟨_, rfl⟩
  rw [← hlen] at HTX OL OA htl ⊢
  have HLN := Lib.hid hlen
  clear hB hT hck hcs hcr hz16 hz256 hzr hk ht hlen
  go_enter Try.func25, Try.ntmps25
  go_upto_region 7 with (first
    | (have _q := R7; refine list_alloc_blk rfl 31 rfl z16 HRUN16.out ?_; intro g12 w8 hB hF hl; have C8 := Lib.hid hB; have F8 := Lib.hid hF; have L8 := Lib.hid hl; clear hB hF hl)
    | (have _q := X6; refine list_store_blk rfl 74 _ _ rfl g10 cr rfl rfl 74 zr X6.out HIR.out HZR.out hsr ?_; intro w7 hB hF; have R7 := Lib.hid hB; have F7 := Lib.hid hF; clear hB hF)
    | (have _q := F5; refine list_alloc_blk rfl 74 rfl zr HRUNR.out ?_; intro g10 w6 hB hF hl; have X6 := Lib.hid hB; have F6 := Lib.hid hF; have L6 := Lib.hid hl; clear hB hF hl)
    | (go_at_call 40; refine (HRR.out _).mono ?_; rintro e w5 ⟨rfl, hf⟩; have F5 := Lib.hid hf; have S5 := Lib.hid ((S4.out).fr0 hf); clear hf)
    | (have _q := _q2; refine list_load_blk rfl 72 _ rfl g9 rfl 72 cs S4.out _ Try.underlying72 rfl HI256.out ?_)
    | (have _q := S4; refine list_load_blk rfl 31 _ rfl w.heap.size rfl 31 ck K4.out _ Try.underlying31 rfl HKI.out ?_; have _q2 := K4)
    | (have _q := X3; refine list_store_blk rfl 72 _ _ rfl g9 cs rfl rfl 72 z256 X3.out HI256.out HZ256.out hs1 ?_; intro w4 hB hF; have S4 := Lib.hid hB; have F4 := Lib.hid hF; have K4 := Lib.hid ((K3.out).fr1 hF NK9.out); clear hB hF)
    | (have _q := F2; refine list_alloc_blk rfl 72 rfl z256 HRUN256.out ?_; intro g9 w3 hB hF hl; have X3 := Lib.hid hB; have F3 := Lib.hid hF; have L3 := Lib.hid hl; have K3 := Lib.hid ((K2.out).fr0 hF); have NK9 := Lib.hid (show w.heap.size ≠ g9 by have := (K2.out).lt; omega); clear hB hF hl)
    | (go_at_call 39; refine (HTB.out _).mono ?_; rintro e w2 ⟨rfl, hf⟩; have F2 := Lib.hid hf; have K2 := Lib.hid ((K0.out).fr0 hf); clear hf))
  have q1 := (F2.out).size
  have q2 := L3.out
  have q3 := (F3.out).size
  have q4 := (F4.out).size
  have q5 := (F5.out).size
  have q6 := L6.out
  have q7 := (F6.out).size
  have q8 := (F7.out).size
  have q9 := L8.out
  have q10 := (X3.out).lt
  have q11 := (X6.out).lt
  simp only [World.size_alloc] at q1
  have n9x := (show g9 ≠ g10 by omega)
  have n9c := (show g9 ≠ g12 by omega)
  have n10c := (show g10 ≠ g12 by omega)
  have LC := Lib.hid (show w.heap.size ≤ g12 by omega)
  have S := Lib.hid ((((S5.out).fr0 F6.out).fr1 F7.out n9x).fr0 F8.out)
  have R := Lib.hid ((R7.out).fr0 F8.out)
  have F := Lib.hid (show Fr0 w w8 from Fr0.trans (Fr0.new (Fr0.trans (Fr0.trans (Fr0.new (Fr0.trans (Fr0.trans ((Fr0.refl w).alloc _) F2.out) F3.out) F4.out (by omega)) F5.out) F6.out) F7.out (by omega)) F8.out)
  have C := Lib.hid (show Blk w8 g12 (byts (List.replicate 16 0)).toArray 31 by rw [← HZ16.out]; exact C8.out)
  clear q1 q2 q3 q4 q5 q6 q7 q8 q9 q10 q11 n9x K0 K2 K3 K4 NK9 F2 F3 F4 F5 F6 F7 F8 X3 X6 S4 S5 R7 C8 L3 L6 L8
  go_loopw [11, 13, 14] (fun v11 v13 v14 wr => ∃ (i : Nat) (hv : Int) (bl : List UInt8) (A : Option Addr) (c : Nat), i ≤ len ∧ v14 = .int .i64 (i : Int) ∧ v13 = .int .i64 hv ∧ v11 = .slice A i c ∧ bl.length = 16 ∧ Hid ((i = 0 ∧ hv = -1) ∨ (0 < i ∧ hv = (((i - 1) / 16 : Nat) : Int) ∧ bl = B ((i - 1) / 16))) ∧
    Blk wr g9 cs 72 ∧ Blk wr g10 cr 74 ∧ Blk wr g12 (byts bl).toArray 31 ∧ SlO w.heap.size wr (.slice A i c) (T.take i) ∧ Fr0 w wr) (fun _ _ v14 _ => len - (intOf v14).toNat)
  case atStart => exact ⟨0, -1, _, none, 0, by omega, rfl, rfl, rfl, List.length_replicate, Lib.hid (.inl ⟨rfl, rfl⟩), S.out, R.out, C.out, SlO.nil _ _, F.out⟩
  case round =>
    obtain ⟨i, hv, bl, A, c, hi, rfl, rfl, rfl, hbl, hcase, hS, hR, hC, hO, hF⟩ := hrel
    clear S R C F
    have S := Lib.hid hS
    have R := Lib.hid hR
    have O := Lib.hid hO
    have F := Lib.hid hF
    by_cases hlt : i < len
    · have i0 : (0 : Int) ≤ (i : Int) := by omega
      have i1 : (i : Int) < (len : Int) := by omega
      have htx := (HTX.out).fr0 hF
      have hil : i < text.length := by rw [← HLN.out]; exact hlt
      obtain ⟨ga, oa, ca', hva, hca, hga, da⟩ := (show RdB wr (.slice At text.length ct) text by rw [← HLN.out]; exact htx).cell hil
      injection hva with hA1 _ hA2
      subst hA1 hA2
      have hgaw := Rd.blk_lt (HTX.out) (by omega) ga rfl
      obtain ⟨q, hq⟩ : ∃ q, q = i / 16 := ⟨_, rfl⟩
      obtain ⟨r, hr⟩ : ∃ q, q = i % 16 := ⟨_, rfl⟩
      have q1 : (i : Int).tdiv 16 = (q : Int) := by rw [Int.tdiv_eq_ediv_of_nonneg (by omega)]; omega
      have q1' : (i : Int) / 16 = (q : Int) := by omega
      have q2 : (i : Int).tmod 16 = (r : Int) := by rw [Int.tmod_eq_emod_of_nonneg (by omega)]; omega
      have q2' : (i : Int) % 16 = (r : Int) := by omega
      have q3 : IntKind.i64.wrap (q : Int) = (q : Int) := IntWalk.i64_in _ (by omega)
      have r0 : (0 : Int) ≤ (r : Int) := by omega
      have r1 : (r : Int) < 16 := by omega
      have hr16 : r < 16 := by omega
      have hoa := OA.out i hlt
      rw [← hq, ← hr] at hoa
      have hel : text[i] = text.getD i 0 := by simp [List.getD, hil]
      rw [hel] at da
      obtain ⟨x, hx⟩ : ∃ x, x = text.getD i 0 := ⟨_, rfl⟩
      rw [← hx] at da hoa
      obtain ⟨t, htt⟩ : ∃ t, t = T.getD i 0 := ⟨_, rfl⟩
      obtain ⟨y, hy⟩ : ∃ y, y = (B q).getD r 0 := ⟨_, rfl⟩
      rw [← htt, ← hy] at hoa
      have hxy := xorU x y
      rw [← hoa] at hxy
      have HXY := Lib.hid hxy
      have HTM := Lib.hid (show T.take (i + 1) = T.take i ++ [t] by rw [htt]; exact take_more (by rw [OL.out]; exact hlt))
      have HTL := Lib.hid (show (T.take i).length = i by rw [List.length_take, OL.out]; omega)
      obtain ⟨pre, hpre⟩ : ∃ p, p = T.take i := ⟨_, rfl⟩
      rw [← hpre] at HTM HTL O
      have HGA := Lib.hid hgaw
      have HYV := Lib.hid hy
      have BQ := Lib.hid (BL.out q)
      have HRQ := Lib.hid (HRB.out q (by omega))
      obtain ⟨bq, hbq⟩ : ∃ b, b = B q := ⟨_, rfl⟩
      rw [← hbq] at HRQ BQ HYV
      have DA := Lib.hid da
      have HNX := Lib.hid (show ((i + 1 - 1) / 16 : Nat) = q by rw [Nat.add_sub_cancel, hq])
      have HBQ := Lib.hid hbq
      by_cases hm : i % 16 = 0
      · have hne : ((q : Int) != hv) = true := by
          rcases hcase.out with ⟨h1, h2⟩ | ⟨h1, h2, -⟩
          · rw [h2]; exact bne_iff_ne.2 (by omega)
          · rw [h2]; exact bne_iff_ne.2 (by omega)
        have HIB := Lib.hid (HIA.out bq BQ.out)
        have HZB := Lib.hid (HSZ.out bl bq hbl BQ.out)
        have hab := HAA.out bq
        have C := Lib.hid hC
        clear hS hR hC hO hF htx hil hgaw hq hr hoa hel hx htt hy hxy hpre hbq hcase hm da hbl
        go_upto_region 13 with (first
          | (have _q := F9; refine list_store_blk rfl 31 _ _ rfl g12 (byts bq).toArray rfl rfl 31 (byts bl).toArray C9.out HIB.out HZB.out hab ?_; intro w10 hB hF; have D := Lib.hid hB; have F10 := Lib.hid hF; clear hB hF)
          | (go_at_call 41; refine (HRQ.out _).mono ?_; rintro e w9 ⟨rfl, hf⟩; have F9 := Lib.hid hf; have C9 := Lib.hid ((C.out).fr0 hf); clear hf)
          | (refine list_load_blk rfl 74 _ rfl g10 rfl 74 cr R.out _ Try.underlying74 rfl HIR.out ?_)
          | (refine list_load_blk rfl 72 _ rfl g9 rfl 72 cs S.out _ Try.underlying72 rfl HI256.out ?_))
        have S := Lib.hid (((S.out).fr0 F9.out).fr1 F10.out n9c)
        have R := Lib.hid (((R.out).fr0 F9.out).fr1 F10.out n10c)
        have O := Lib.hid (((O.out).fr0 F9.out).fr1 F10.out C9.out (by decide))
        have F := Lib.hid (Fr0.new (Fr0.trans F.out F9.out) F10.out LC.out)
        have DA := Lib.hid (Fr.cell (p := ⟨ga, oa + i, none⟩) F10.out (by have := HGA.out; have := LC.out; show ga ≠ g12; omega) ((F9.out).cell DA.out))
        clear F9 F10 C C9 HIB HZB hab hne HRQ
        have hD := D.out
        have cy := hD.u8 (i := r) (by rw [BQ.out]; exact hr16)
        rw [← HYV.out] at cy
        have hS0 : w10.drew.cell? ⟨ga, oa + i, none⟩ = some (.int .u8 (x.toNat : Int)) ∧ w10.drew.cell? ⟨g12, r, none⟩ = some (.int .u8 (y.toNat : Int)) := ⟨DA.out, cy⟩
        have SQ := Lib.hid ((S.out).drew)
        have RQ := Lib.hid ((R.out).drew)
        have DQ := Lib.hid ((D.out).drew)
        have OQ := Lib.hid ((O.out).fr0 ((Fr0.refl _).drew))
        have FQ := Lib.hid ((F.out).drew)
        clear hD cy S R D O F DA
        refine wp_region_held_drew (S := (fun W => W.cell? ⟨ga, oa + i, none⟩ = some (.int .u8 (x.toNat : Int)) ∧ W.cell? ⟨g12, r, none⟩ = some (.int .u8 (y.toNat : Int)))) (by kernel_rfl) hS0 (fun hHeld => ?_)
        generalize w10.drew = wq at *
        have _hI : True := trivial
        clear _hI
        refine takeH (i := 0) rfl (by kernel_rfl) (by kernel_rfl) (by kernel_rfl) (fun _ _ _ h => h) (v := .slice A i c) (.inl ⟨rfl, fun W hW => (by go_simp; try rfl)⟩) hS0 ?_
        try simp only [Act.put, List.setIfInBounds_toArray, List.set_cons_zero, List.set_cons_succ]
        have _hI : True := trivial
        clear _hI
        refine takeH (i := 1) rfl (by kernel_rfl) (by kernel_rfl) (by kernel_rfl) (fun _ _ _ h => h) (.inl ⟨rfl, fun W hW => (by go_simp; try rfl)⟩) hS0 ?_
        try simp only [Act.put, List.setIfInBounds_toArray, List.set_cons_zero, List.set_cons_succ]
        have _hI : True := trivial
        clear _hI
        refine takeH (i := 2) rfl (by kernel_rfl) (by kernel_rfl) (by kernel_rfl) (fun _ _ _ h => h) (.inl ⟨rfl, fun W hW => (by go_simp; try rfl)⟩) hS0 ?_
        try simp only [Act.put, List.setIfInBounds_toArray, List.set_cons_zero, List.set_cons_succ]
        have _hI : True := trivial
        clear _hI
        refine takeH (i := 3) rfl (by kernel_rfl) (by kernel_rfl) (by kernel_rfl) (fun _ _ _ h => h) (.inl ⟨rfl, fun W hW => (by go_simp; try rfl)⟩) hS0 ?_
        try simp only [Act.put, List.setIfInBounds_toArray, List.set_cons_zero, List.set_cons_succ]
        have _hI : True := trivial
        clear _hI
        refine takeH (i := 4) rfl (by kernel_rfl) (by kernel_rfl) (by kernel_rfl) (fun _ _ _ h => h) (v := .int .u8 (x.toNat : Int)) (.inl ⟨rfl, fun W hW => (by have f := hW.1; go_simp; try rfl)⟩) hS0 ?_
        try simp only [Act.put, List.setIfInBounds_toArray, List.set_cons_zero, List.set_cons_succ]
        have _hI : True := trivial
        clear _hI
        refine takeH (i := 5) rfl (by kernel_rfl) (by kernel_rfl) (by kernel_rfl) (fun _ _ _ h => h) (.inl ⟨rfl, fun W hW => (by go_simp; try rfl)⟩) hS0 ?_
        try simp only [Act.put, List.setIfInBounds_toArray, List.set_cons_zero, List.set_cons_succ]
        have _hI : True := trivial
        clear _hI
        refine takeH (i := 6) rfl (by kernel_rfl) (by kernel_rfl) (by kernel_rfl) (fun _ _ _ h => h) (.inl ⟨rfl, fun W hW => (by go_simp; try rfl)⟩) hS0 ?_
        try simp only [Act.put, List.setIfInBounds_toArray, List.set_cons_zero, List.set_cons_succ]
        have _hI : True := trivial
        clear _hI
        refine takeH (i := 7) rfl (by kernel_rfl) (by kernel_rfl) (by kernel_rfl) (fun _ _ _ h => h) (.inl ⟨rfl, fun W hW => (by go_simp; try rfl)⟩) hS0 ?_
        try simp only [Act.put, List.setIfInBounds_toArray, List.set_cons_zero, List.set_cons_succ]
        have _hI : True := trivial
        clear _hI
        refine takeH (i := 8) rfl (by kernel_rfl) (by kernel_rfl) (by kernel_rfl) (fun _ _ _ h => h) (v := .int .u8 (y.toNat : Int)) (.inl ⟨rfl, fun W hW => (by have f := hW.2; go_simp; try rfl)⟩) hS0 ?_
        try simp only [Act.put, List.setIfInBounds_toArray, List.set_cons_zero, List.set_cons_succ]
        have _hI : True := trivial
        clear _hI
        refine takeH (i := 9) rfl (by kernel_rfl) (by kernel_rfl) (by kernel_rfl) (fun _ _ _ h => h) (v := .int .u8 (t.toNat : Int)) (.inl ⟨rfl, fun W hW => (by have h := HXY.out; go_simp; try rfl)⟩) hS0 ?_
        try simp only [Act.put, List.setIfInBounds_toArray, List.set_cons_zero, List.set_cons_succ]
        have _hI : True := trivial
        clear _hI
        refine wpAnyH_ready (rs := [10]) (by kernel_rfl) (by simp) (consG rfl rfl (fun K hK => ?_) AllReadyH.nil)
        have _hI : True := trivial
        clear _hI
        refine wp_built_blk 35 5 1 _ rfl #[.int .u8 (t.toNat : Int)] (fun W => by go_simp; try rfl) ?_
        intro gb Wb hB hf hg
        have GB := Lib.hid hB
        have FB := Lib.hid hf
        clear hB hf hg
        refine hK.out _ _ (And.intro ((FB.out).cell hS0.1) ((FB.out).cell hS0.2)) ?_
        clear hK
        try simp only [Act.put, List.setIfInBounds_toArray, List.set_cons_zero, List.set_cons_succ]
        have _hI : True := trivial
        clear _hI
        refine wpAnyH_ready (rs := [11]) (by kernel_rfl) (by simp) (consG rfl rfl (fun K hK => ?_) AllReadyH.nil)
        have _hI : True := trivial
        clear _hI
        refine wp_append_sl (base := w.heap.size) (d := pre) (e := [t]) _ _ rfl ((OQ.out).fr0 FB.out) rfl (Nat.le_trans (FQ.out).size (FB.out).size) (rd64 (d := [t]) (n := 1) GB.out rfl (by decide)) rfl (by rw [HTL.out]; show i + 1 ≤ 1000000; omega) ?_
        intro A2 c2 Wc hS2 hF2 hK2
        rw [show pre.length + [t].length = i + 1 by rw [HTL.out]; rfl]
        have O2 := Lib.hid (show SlO w.heap.size Wc (.slice A2 (i + 1) c2) (pre ++ [t]) by have h := hS2; rw [show (pre ++ [t]).length = i + 1 by rw [List.length_append, HTL.out]; rfl] at h; exact h)
        have F2 := Lib.hid (show Fr (inBlk (.slice A i c)) Wb Wc from hF2)
        have hS1 := And.intro (Fr.cell (p := ⟨ga, oa + i, none⟩) F2.out (fun hk => absurd ((OQ.out).lo ga hk).1 (by have := HGA.out; omega)) ((FB.out).cell hS0.1)) (Fr.cell (p := ⟨g12, r, none⟩) F2.out (fun hk => (OQ.out).ne DQ.out (by decide) _ hk rfl) ((FB.out).cell hS0.2))
        clear hS2 hF2 hK2
        refine hK.out _ _ hS1 ?_
        clear hK
        try simp only [Act.put, List.setIfInBounds_toArray, List.set_cons_zero, List.set_cons_succ]
        have _hI : True := trivial
        clear _hI
        refine takeH (i := 12) rfl (by kernel_rfl) (by kernel_rfl) (by kernel_rfl) (fun _ _ _ h => h) (.inl ⟨rfl, fun W hW => (by go_simp; try rfl)⟩) hS1 ?_
        try simp only [Act.put, List.setIfInBounds_toArray, List.set_cons_zero, List.set_cons_succ]
        refine wpAnyH_done (by kernel_rfl) ?_ _
        go_wp2_with fail
        go_roundw
        case rel => exact ⟨i + 1, (q : Int), bq, A2, c2, by omega, by go_num, rfl, rfl, BQ.out, Lib.hid (.inr ⟨by omega, by rw [HNX.out], by rw [HNX.out]; exact HBQ.out⟩), ((SQ.out).fr0 FB.out).fr F2.out (fun hk => (OQ.out).ne SQ.out (by decide) _ hk rfl), ((RQ.out).fr0 FB.out).fr F2.out (fun hk => (OQ.out).ne RQ.out (by decide) _ hk rfl), ((DQ.out).fr0 FB.out).fr F2.out (fun hk => (OQ.out).ne DQ.out (by decide) _ hk rfl), by rw [HTM.out]; exact O2.out, Fr.then (Fr0.trans FQ.out FB.out) F2.out (fun k hk hl => absurd ((OQ.out).lo k hk).1 (by omega))⟩
        case measure => simp [intOf]; omega
      · have hpos : 0 < i := by omega
        have hq1 : (i - 1) / 16 = q := by omega
        have hb2 : hv = (q : Int) ∧ bq = bl := by
          rcases hcase.out with ⟨h1, h2⟩ | ⟨h1, h2, h3⟩
          · omega
          · rw [hq1] at h2 h3; exact ⟨h2, by rw [h3, hbq]⟩
        obtain ⟨rfl, rfl⟩ := hb2
        have hne : ((q : Int) != (q : Int)) = false := by simp
        have D := Lib.hid hC
        clear hS hR hC hO hF htx hil hgaw hq hr hoa hel hx htt hy hxy hpre hbq hcase hm da hbl hpos hq1
        go_upto_region 13 with (fail)
        clear hne HRQ
        have hD := D.out
        have cy := hD.u8 (i := r) (by rw [BQ.out]; exact hr16)
        rw [← HYV.out] at cy
        have hS0 : wr.drew.cell? ⟨ga, oa + i, none⟩ = some (.int .u8 (x.toNat : Int)) ∧ wr.drew.cell? ⟨g12, r, none⟩ = some (.int .u8 (y.toNat : Int)) := ⟨DA.out, cy⟩
        have SQ := Lib.hid ((S.out).drew)
        have RQ := Lib.hid ((R.out).drew)
        have DQ := Lib.hid ((D.out).drew)
        have OQ := Lib.hid ((O.out).fr0 ((Fr0.refl _).drew))
        have FQ := Lib.hid ((F.out).drew)
        clear hD cy S R D O F DA
        refine wp_region_held_drew (S := (fun W => W.cell? ⟨ga, oa + i, none⟩ = some (.int .u8 (x.toNat : Int)) ∧ W.cell? ⟨g12, r, none⟩ = some (.int .u8 (y.toNat : Int)))) (by kernel_rfl) hS0 (fun hHeld => ?_)
        generalize wr.drew = wq at *
        have _hI : True := trivial
        clear _hI
        refine takeH (i := 0) rfl (by kernel_rfl) (by kernel_rfl) (by kernel_rfl) (fun _ _ _ h => h) (v := .slice A i c) (.inl ⟨rfl, fun W hW => (by go_simp; try rfl)⟩) hS0 ?_
        try simp only [Act.put, List.setIfInBounds_toArray, List.set_cons_zero, List.set_cons_succ]
        have _hI : True := trivial
        clear _hI
        refine takeH (i := 1) rfl (by kernel_rfl) (by kernel_rfl) (by kernel_rfl) (fun _ _ _ h => h) (.inl ⟨rfl, fun W hW => (by go_simp; try rfl)⟩) hS0 ?_
        try simp only [Act.put, List.setIfInBounds_toArray, List.set_cons_zero, List.set_cons_succ]
        have _hI : True := trivial
        clear _hI
        refine takeH (i := 2) rfl (by kernel_rfl) (by kernel_rfl) (by kernel_rfl) (fun _ _ _ h => h) (.inl ⟨rfl, fun W hW => (by go_simp; try rfl)⟩) hS0 ?_
        try simp only [Act.put, List.setIfInBounds_toArray, List.set_cons_zero, List.set_cons_succ]
        have _hI : True := trivial
        clear _hI
        refine takeH (i := 3) rfl (by kernel_rfl) (by kernel_rfl) (by kernel_rfl) (fun _ _ _ h => h) (.inl ⟨rfl, fun W hW => (by go_simp; try rfl)⟩) hS0 ?_
        try simp only [Act.put, List.setIfInBounds_toArray, List.set_cons_zero, List.set_cons_succ]
        have _hI : True := trivial
        clear _hI
        refine takeH (i := 4) rfl (by kernel_rfl) (by kernel_rfl) (by kernel_rfl) (fun _ _ _ h => h) (v := .int .u8 (x.toNat : Int)) (.inl ⟨rfl, fun W hW => (by have f := hW.1; go_simp; try rfl)⟩) hS0 ?_
        try simp only [Act.put, List.setIfInBounds_toArray, List.set_cons_zero, List.set_cons_succ]
        have _hI : True := trivial
        clear _hI
        refine takeH (i := 5) rfl (by kernel_rfl) (by kernel_rfl) (by kernel_rfl) (fun _ _ _ h => h) (.inl ⟨rfl, fun W hW => (by go_simp; try rfl)⟩) hS0 ?_
        try simp only [Act.put, List.setIfInBounds_toArray, List.set_cons_zero, List.set_cons_succ]
        have _hI : True := trivial
        clear _hI
        refine takeH (i := 6) rfl (by kernel_rfl) (by kernel_rfl) (by kernel_rfl) (fun _ _ _ h => h) (.inl ⟨rfl, fun W hW => (by go_simp; try rfl)⟩) hS0 ?_
        try simp only [Act.put, List.setIfInBounds_toArray, List.set_cons_zero, List.set_cons_succ]
        have _hI : True := trivial
        clear _hI
        refine takeH (i := 7) rfl (by kernel_rfl) (by kernel_rfl) (by kernel_rfl) (fun _ _ _ h => h) (.inl ⟨rfl, fun W hW => (by go_simp; try rfl)⟩) hS0 ?_
        try simp only [Act.put, List.setIfInBounds_toArray, List.set_cons_zero, List.set_cons_succ]
        have _hI : True := trivial
        clear _hI
        refine takeH (i := 8) rfl (by kernel_rfl) (by kernel_rfl) (by kernel_rfl) (fun _ _ _ h => h) (v := .int .u8 (y.toNat : Int)) (.inl ⟨rfl, fun W hW => (by have f := hW.2; go_simp; try rfl)⟩) hS0 ?_
        try simp only [Act.put, List.setIfInBounds_toArray, List.set_cons_zero, List.set_cons_succ]
        have _hI : True := trivial
        clear _hI
        refine takeH (i := 9) rfl (by kernel_rfl) (by kernel_rfl) (by kernel_rfl) (fun _ _ _ h => h) (v := .int .u8 (t.toNat : Int)) (.inl ⟨rfl, fun W hW => (by have h := HXY.out; go_simp; try rfl)⟩) hS0 ?_
        try simp only [Act.put, List.setIfInBounds_toArray, List.set_cons_zero, List.set_cons_succ]
        have _hI : True := trivial
        clear _hI
        refine wpAnyH_ready (rs := [10]) (by kernel_rfl) (by simp) (consG rfl rfl (fun K hK => ?_) AllReadyH.nil)
        have _hI : True := trivial
        clear _hI
        refine wp_built_blk 35 5 1 _ rfl #[.int .u8 (t.toNat : Int)] (fun W => by go_simp; try rfl) ?_
        intro gb Wb hB hf hg
        have GB := Lib.hid hB
        have FB := Lib.hid hf
        clear hB hf hg
        refine hK.out _ _ (And.intro ((FB.out).cell hS0.1) ((FB.out).cell hS0.2)) ?_
        clear hK
        try simp only [Act.put, List.setIfInBounds_toArray, List.set_cons_zero, List.set_cons_succ]
        have _hI : True := trivial
        clear _hI
        refine wpAnyH_ready (rs := [11]) (by kernel_rfl) (by simp) (consG rfl rfl (fun K hK => ?_) AllReadyH.nil)
        have _hI : True := trivial
        clear _hI
        refine wp_append_sl (base := w.heap.size) (d := pre) (e := [t]) _ _ rfl ((OQ.out).fr0 FB.out) rfl (Nat.le_trans (FQ.out).size (FB.out).size) (rd64 (d := [t]) (n := 1) GB.out rfl (by decide)) rfl (by rw [HTL.out]; show i + 1 ≤ 1000000; omega) ?_
        intro A2 c2 Wc hS2 hF2 hK2
        rw [show pre.length + [t].length = i + 1 by rw [HTL.out]; rfl]
        have O2 := Lib.hid (show SlO w.heap.size Wc (.slice A2 (i + 1) c2) (pre ++ [t]) by have h := hS2; rw [show (pre ++ [t]).length = i + 1 by rw [List.length_append, HTL.out]; rfl] at h; exact h)
        have F2 := Lib.hid (show Fr (inBlk (.slice A i c)) Wb Wc from hF2)
        have hS1 := And.intro (Fr.cell (p := ⟨ga, oa + i, none⟩) F2.out (fun hk => absurd ((OQ.out).lo ga hk).1 (by have := HGA.out; omega)) ((FB.out).cell hS0.1)) (Fr.cell (p := ⟨g12, r, none⟩) F2.out (fun hk => (OQ.out).ne DQ.out (by decide) _ hk rfl) ((FB.out).cell hS0.2))
        clear hS2 hF2 hK2
        refine hK.out _ _ hS1 ?_
        clear hK
        try simp only [Act.put, List.setIfInBounds_toArray, List.set_cons_zero, List.set_cons_succ]
        have _hI : True := trivial
        clear _hI
        refine takeH (i := 12) rfl (by kernel_rfl) (by kernel_rfl) (by kernel_rfl) (fun _ _ _ h => h) (.inl ⟨rfl, fun W hW => (by go_simp; try rfl)⟩) hS1 ?_
        try simp only [Act.put, List.setIfInBounds_toArray, List.set_cons_zero, List.set_cons_succ]
        refine wpAnyH_done (by kernel_rfl) ?_ _
        go_wp2_with fail
        go_roundw
        case rel => exact ⟨i + 1, (q : Int), bq, A2, c2, by omega, by go_num, rfl, rfl, BQ.out, Lib.hid (.inr ⟨by omega, by rw [HNX.out], by rw [HNX.out]; exact HBQ.out⟩), ((SQ.out).fr0 FB.out).fr F2.out (fun hk => (OQ.out).ne SQ.out (by decide) _ hk rfl), ((RQ.out).fr0 FB.out).fr F2.out (fun hk => (OQ.out).ne RQ.out (by decide) _ hk rfl), ((DQ.out).fr0 FB.out).fr F2.out (fun hk => (OQ.out).ne DQ.out (by decide) _ hk rfl), by rw [HTM.out]; exact O2.out, Fr.then (Fr0.trans FQ.out FB.out) F2.out (fun k hk hl => absurd ((OQ.out).lo k hk).1 (by omega))⟩
        case measure => simp [intOf]; omega
    · obtain rfl : i = len := by omega
      have e : T.take i = T := List.take_of_length_le (by rw [OL.out]; omega)
      rw [e] at hO
      have O := Lib.hid hO
      have F := Lib.hid hF
      clear hS hR hC hO hF e hcase
      go_wp2_with fail
      go_ret
      exact ⟨A, c, rfl, O.out, F.out⟩
end Go.Proofs.Ytpmindbipclphaa
namespace Go.Proofs.Ytpmindbipclphaa
open Go.RowKit

/-- A key that is a block or less. -/
def keyN (key : List UInt8) : List UInt8 := if key.length ≤ 64 then key else shaN key
def padK (key : List UInt8) : List UInt8 := keyN key ++ List.replicate (64 - (keyN key).length) 0
def blockN (key : List UInt8) (x : UInt8) : List UInt8 := (padK key).map (· ^^^ x)
/-- The mark of a text under a key. -/
def macN (key text : List UInt8) : List UInt8 := shaN (blockN key 92 ++ shaN (blockN key 54 ++ text))
theorem shaN_len (b : List UInt8) : (shaN b).length = 32 := outB_len _
theorem keyN_le (key : List UInt8) : (keyN key).length ≤ 64 := by
  unfold keyN
  split
  · assumption
  · rw [shaN_len]; decide
theorem padK_len (key : List UInt8) : (padK key).length = 64 := by
  have := keyN_le key
  unfold padK
  rw [List.length_append, List.length_replicate]
  omega
theorem blockN_len (key : List UInt8) (x : UInt8) : (blockN key x).length = 64 := by unfold blockN; rw [List.length_map, padK_len]
theorem macN_len (key text : List UInt8) : (macN key text).length = 32 := shaN_len _
theorem keyN_small {key : List UInt8} (h : key.length ≤ 64) : keyN key = key := if_pos h
theorem keyN_great {key : List UInt8} (h : 64 < key.length) : keyN key = shaN key := if_neg (by omega)
theorem blockN_at (key : List UInt8) (x : UInt8) (i : Nat) (h : i < 64) : (blockN key x).getD i 0 = (padK key).getD i 0 ^^^ x := by
  have hl := padK_len key
  unfold blockN
  simp [List.getD, hl, h]
theorem xor_u8 (x y : UInt8) : bits .xor .u8 (x.toNat : Int) (y.toNat : Int) = ((x ^^^ y).toNat : Int) := by
  have hx := x.toNat_lt
  have hy := y.toNat_lt
  rw [UInt8.toNat_xor]
  exact u8_xor_nat x.toNat y.toNat hx hy
theorem take_set_xor {l m : List UInt8} {n i : Nat} (hl : l.length = n) (hm : m.length = n) (hi : i < n) : (byts (m.take i ++ l.drop i)).toArray[i]? = some (.int .u8 ((l.getD i 0).toNat : Int)) := by
  rw [List.getElem?_toArray, byts, List.getElem?_map, List.getElem?_append_right (by rw [List.length_take]; omega), List.length_take, List.getElem?_drop, show i + (i - min i m.length) = i by omega]
  simp [List.getD, hl, hi]
end Go.Proofs.Ytpmindbipclphaa
namespace Go.Proofs.Ytpmindbipclphaa
open Go.RowKit

/-- What the tag is of. -/
def headL (code : List UInt8) (wd : Nat) (text : List UInt8) : List UInt8 := fixForm wd 8 ++ tnL code wd text
def tagL (mark hd : List UInt8) : List UInt8 := (macN mark hd).take 16
def packL (code mark : List UInt8) (wd : Nat) (text : List UInt8) : List UInt8 := headL code wd text ++ tagL mark (headL code wd text)
theorem headL_len (code : List UInt8) (wd : Nat) (text : List UInt8) : (headL code wd text).length = 8 + text.length := by unfold headL; rw [List.length_append, fixForm_len, tnL_len]
theorem tagL_len (mark hd : List UInt8) : (tagL mark hd).length = 16 := by unfold tagL; rw [List.length_take, macN_len]; rfl
theorem packL_len (code mark : List UInt8) (wd : Nat) (text : List UInt8) : (packL code mark wd text).length = text.length + 24 := by unfold packL; rw [List.length_append, headL_len, tagL_len]; omega
theorem packL_eq (code mark : List UInt8) (wd : Nat) (text : List UInt8) : packL code mark wd text = (fixForm wd 8 ++ tnL code wd text) ++ (macN mark (fixForm wd 8 ++ tnL code wd text)).take 16 := rfl
/-- A text turned twice is the text. -/
theorem tnL_tnL (code : List UInt8) (wd : Nat) (text : List UInt8) : tnL code wd (tnL code wd text) = text := by
  refine List.ext_getElem? fun i => ?_
  by_cases h : i < text.length
  · have h1 := tnL_at code wd (tnL code wd text) (i := i) (by rw [tnL_len]; exact h)
    rw [tnL_at code wd text h] at h1
    have h2 : text.getD i 0 ^^^ strB code wd i ^^^ strB code wd i = text.getD i 0 := by rw [UInt8.xor_assoc, UInt8.xor_self, UInt8.xor_zero]
    rw [h2] at h1
    have e1 : (tnL code wd (tnL code wd text))[i]? = some ((tnL code wd (tnL code wd text)).getD i 0) := by
      have : i < (tnL code wd (tnL code wd text)).length := by rw [tnL_len, tnL_len]; exact h
      simp [List.getD, this]
    have e2 : text[i]? = some (text.getD i 0) := by simp [List.getD, h]
    rw [e1, e2, h1]
  · rw [List.getElem?_eq_none (by rw [tnL_len, tnL_len]; omega), List.getElem?_eq_none (by omega)]
end Go.Proofs.Ytpmindbipclphaa
set_option linter.unusedSimpArgs false
set_option linter.unusedVariables false
namespace Go.Proofs.Ytpmindbipclphaa
open Go.RowKit

def plainOp (o : Oper) : Bool := match o.op with | .defer _ => false | _ => true
theorem plainOp.out {o : Oper} (h : plainOp o = true) : ∀ c, o.op ≠ .defer c := by
  intro c e; simp [plainOp, e] at h
section
variable {l n : Nat} {P : Program} {Q : Exit → Act → World → Prop} {a : Act} {w : World} {md : Region.Mode} {ops : Array Oper}
theorem rows_wideR {row : String} {args : Array Value} {R : Value → World → Prop} (h : Rows P row args w R) : RowsIn (Fence.wide.inRound l) n P row args w R := by
  intro c cs _
  obtain ⟨v, w', hr, hs⟩ := h c cs
  exact ⟨v, w', hr, (stepsIn_wide (P := P)).2 hs⟩
theorem oper_round {o : Oper} {K : Act → World → Prop} (hd : plainOp o = true) (h : o.wp P a w K Q) : o.wpIn (Fence.wide.inRound l) n P a w K Q := by
  refine ⟨fun _ _ => trivial, ?_⟩
  rw [show (Fence.wide.inRound l).round = some l from rfl, Oper.semAt_some l _ _ (plainOp.out hd)]
  unfold Oper.wp at h
  generalize (execOp a.eval o).run P w = r at *
  cases r with
  | ok x w' =>
    cases x <;> simp only [Oper.upon] at h <;> simp only [Oper.uponIn] <;>
      first
        | exact h
        | exact h.elim
        | exact ⟨fun hh => (by cases hh), (callsIn_wide (n := n - 1)).2 h⟩
        | exact ⟨fun hh => (by cases hh), rows_wideR h⟩
  | halt x w' => cases x <;> simp only [Oper.upon] at h <;> simp only [Oper.uponIn] <;> first | exact h | exact h.elim
theorem oper_round_or {o : Oper} {K : Act → World → Prop} (hQ : ∀ a w, Q .outgrown a w → False) (hd : plainOp o = true) (h : o.wp P a w K Q ∨ (o.asks P a w ∧ LetsOut Q)) : o.wpIn (Fence.wide.inRound l) n P a w K Q := by
  rcases h with h | ⟨-, x, y, h⟩
  · exact oper_round hd h
  · exact (hQ _ _ h).elim
theorem op_round (hQ : ∀ a w, Q .outgrown a w → False) (hd : ops.all plainOp = true) {i : Nat} {K : Act → World → Prop} (h : wpOp P ops Q i K a w) : wpOpIn (Fence.wide.inRound l) n P ops Q i K a w := by
  unfold wpOp at h
  unfold wpOpIn
  cases ho : ops[i]? with
  | none => simp only [ho] at h ⊢; exact h
  | some o =>
    simp only [ho] at h ⊢
    have hp : plainOp o = true := by
      obtain ⟨hlt, he⟩ := Array.getElem?_eq_some_iff.1 ho
      have := (Array.all_eq_true.1 hd) i hlt
      rwa [he] at this
    split
    · rename_i hw; simp only [hw, if_true] at h; exact oper_round_or hQ hp h
    · rename_i hw; simp only [hw] at h; exact ⟨fun _ _ => trivial, h⟩
theorem any_round (hQ : ∀ a w, Q .outgrown a w → False) (hd : ops.all plainOp = true) : ∀ (fuel : Nat) (listed : Array Bool) (a : Act) (w : World), wpAny P md ops Q fuel listed a w → wpAnyIn (Fence.wide.inRound l) n P md ops Q fuel listed a w
  | 0, _, _, _, h => h
  | fuel + 1, listed, a, w, h => ⟨h.1, fun i hi => wpOpIn_mono (fun a w h' => any_round hQ hd fuel _ a w h') (op_round hQ hd (h.2 i hi))⟩
theorem list_round (hQ : ∀ a w, Q .outgrown a w → False) : ∀ (rest : List Oper) (a : Act) (w : World), rest.all plainOp = true → wpList P ops Q rest a w → wpListIn (Fence.wide.inRound l) n P ops Q rest a w
  | [], _, _, _, h => h
  | o :: rest, a, w, hd, h => by
    simp only [List.all_cons, Bool.and_eq_true] at hd
    unfold wpList at h
    unfold wpListIn
    split
    · rename_i hw
      simp only [hw, if_true] at h
      exact Oper.wpIn_mono (fun a w h' => list_round hQ rest a w hd.2 h') (oper_round_or hQ hd.1 h)
    · rename_i hw
      simp only [hw] at h
      exact ⟨fun _ _ => trivial, list_round hQ rest _ w hd.2 h⟩
/-- A region that draws no order. -/
theorem wpInR_region {id : Nat} {L : List Oper} (hQ : ∀ a w, Q .outgrown a w → False) (hd : L.all plainOp = true) (h : wpList P L.toArray Q L a w) : (Code.region id L.toArray false).wpIn (Fence.wide.inRound l) n P Q a w :=
  wpIn_region_lit (list_round hQ L a w hd h)
/-- A region that draws its order: reads, then what writes. -/
theorem wpInR_still_tail {id : Nat} {L : List Oper} (k : Nat) (hm : P.follows .mixedOrders = true) (hB : Region.lexTailB .any L.toArray k = true) (hd : L.toArray.all plainOp = true) (hQ : ∀ a w, Q .outgrown a w → False)
    (h : wpStill P L.toArray { w with drawn := w.drawn + 1 } (fun a' => wpList P L.toArray Q (L.drop k) a' { w with drawn := w.drawn + 1 }) (L.take k) a) : (Code.region id L.toArray true).wpIn (Fence.wide.inRound l) n P Q a w := by
  simp only [Region.lexTailB, Bool.and_eq_true, decide_eq_true_eq] at hB
  obtain ⟨⟨⟨⟨hsel, hn⟩, hs⟩, hc⟩, hlex⟩ := hB
  have hn' : k < L.length := by simpa using hn
  have htl : (L.take k).length = k := by simp; omega
  have hdl : (L.drop k).length = L.toArray.size - k := by simp
  have inv0 : HeadInv .any L.toArray k (Array.replicate L.toArray.size false) :=
    ⟨by simp, fun j oj _ hl => (by rw [getD_replicate_false] at hl; cases hl), fun t _ ht => getD_in (by simpa using ht) (getD_replicate_false _ _)⟩
  have H := wpAnyL_lex (md := .any) (g := L.toArray.size - k) hsel hs hc hn (L.take k) 0 _ a (fun j hj => by
    have hj' : j < k := by rw [htl] at hj; exact hj
    simp [hj']) (by simpa using htl) inv0 (by rw [htl]; exact hlex) h
  refine wpIn_region_any hm (any_round hQ hd _ _ _ _ ?_)
  have := wpAny_of_head (Q' := Q) (g := L.toArray.size - k) (fun listed a' hL => by
    have := wpAny_of_seq (md := .any) (Q' := Q) (L.drop k) k listed a' { w with drawn := w.drawn + 1 } (fun j => by simp [List.getElem?_drop]) (by rw [hdl]; exact hL.1) hL.2
    rwa [hdl] at this) _ _ _ H
  rw [htl, show k + (L.toArray.size - k) = L.toArray.size by omega] at this
  exact this
end
end Go.Proofs.Ytpmindbipclphaa
set_option linter.unusedSimpArgs false
set_option linter.unusedVariables false
namespace Go.Proofs.Ytpmindbipclphaa
open Go.RowKit

theorem Fr0.grownBy {w w' : World} (h : Fr0 w w') : w.grownBy w' none := ⟨h.os, h.tape, h.output, h.size, fun k hk _ => h.block k hk (fun h => h)⟩
theorem abides_fr0 {β : Type} {B : Nat} {J : β → World → Prop} (h : AbidesFrom B J) {s : β} {w w' : World} (hs : J s w) (hf : Fr0 w w') : J s w' := h s w w' none hs hf.grownBy (fun r e => by cases e)

set_option maxHeartbeats 1000000 in
theorem walk_any {gn gk : Nat} {i : Int} {m : Int} (w : World) :
    Calls Try.prog 47 #[.func (.func 48) #[] #[.pointer (some ⟨gn, 0, none⟩), .pointer (some ⟨gk, 0, none⟩)], .int .i64 i, .int .i64 m] w fun e w' => ∃ g0 g1 g2, e = .returned (.func (.func 61) #[] #[.pointer (some ⟨g2, 0, none⟩), .pointer (some ⟨g1, 0, none⟩), .pointer (some ⟨g0, 0, none⟩)]) ∧
      Blk w' g0 #[.func (.func 48) #[] #[.pointer (some ⟨gn, 0, none⟩), .pointer (some ⟨gk, 0, none⟩)]] 63 ∧ Blk w' g1 #[.int .i64 i] 3 ∧ Blk w' g2 #[.int .i64 m] 3 ∧ w.heap.size ≤ g0 ∧ w.heap.size ≤ g1 ∧ w.heap.size ≤ g2 ∧ Fr0 w w' := by
  go_enter Try.func47, Try.ntmps47
  go_wp2_with fail
  go_ret
  have b0 := Blk.new w #[.func (.func 48) #[] #[.pointer (some ⟨gn, 0, none⟩), .pointer (some ⟨gk, 0, none⟩)]] 63
  have b1 := Blk.new (w.alloc (.cells #[.func (.func 48) #[] #[.pointer (some ⟨gn, 0, none⟩), .pointer (some ⟨gk, 0, none⟩)]] 63)) #[.int .i64 i] 3
  have b2 := Blk.new ((w.alloc (.cells #[.func (.func 48) #[] #[.pointer (some ⟨gn, 0, none⟩), .pointer (some ⟨gk, 0, none⟩)]] 63)).alloc (.cells #[.int .i64 i] 3)) #[.int .i64 m] 3
  simp only [World.size_alloc] at b1 b2
  exact ⟨_, _, _, rfl, (b0.alloc _).alloc _, b1.alloc _, b2, Nat.le_refl _, by omega, by omega, (((Fr0.refl w).alloc _).alloc _).alloc _⟩
set_option maxHeartbeats 4000000 in
set_option maxRecDepth 100000 in
theorem walk1_in {key : List UInt8} {n many g0 g1 g2 gn gk d : Nat} {S : Nat → Prop} (hk : key.length = 16) (hn : n < 18446744073709551616) (h0m : 0 < many) (hm : many < 1000000) (l : Nat) (J Jx : List Nat → World → Prop) (B : Nat)
    (hJ : AbidesFrom B J)
    (hS : ¬ S g0 ∧ ¬ S g1 ∧ ¬ S g2 ∧ ¬ S gn ∧ ¬ S gk)
    (hY : ∀ pre (x : Nat) W, J pre W → pre.length < many → YieldAt Fence.wide (d - 1) Try.prog l #[.int .i64 (x : Int), .agg (byts (blkL key n x)).toArray] W fun e W' =>
      (e = .returned (.bool true) ∧ J (pre ++ [x]) W' ∧ Fr S W W') ∨ (e = .returned (.bool false) ∧ Jx (pre ++ [x]) W'))
    (w : World) (h0 : Blk w g0 #[.func (.func 48) #[] #[.pointer (some ⟨gn, 0, none⟩), .pointer (some ⟨gk, 0, none⟩)]] 63) (h1 : Blk w g1 #[.int .i64 0] 3) (h2 : Blk w g2 #[.int .i64 (many : Int)] 3)
    (hbn : Blk w gn #[.int .u64 (n : Int)] 22) (hbk : Blk w gk (byts key).toArray 31) (hJ0 : J [] w) :
    CallsIn Fence.wide d Try.prog 61 #[.func (.yield l) #[] #[], .pointer (some ⟨g2, 0, none⟩), .pointer (some ⟨g1, 0, none⟩), .pointer (some ⟨g0, 0, none⟩)] w fun e w' => (∃ v, e = .returned v) ∧
      ((∃ xs, xs = List.range many ∧ J xs w') ∨ (∃ pre, True ∧ Jx pre w')) := by
  have HB := Lib.hid (fun (i : Nat) (hi : i < 4611686018427387904) W (hbn : Blk W gn #[.int .u64 (n : Int)] 22) (hbk : Blk W gk (byts key).toArray 31) => pblock_any hk hn hi hbn hbk)
  have HYY := Lib.hid (fun pre (x : Nat) W hj hl => show YieldAt Fence.wide (d - 1) Try.prog l #[.int .i64 (x : Int), .agg (byts (blkL key n x)).toArray] W (fun e W' => ∃ b : Bool, e = .returned (.bool b) ∧ ((b = true ∧ J (pre ++ [x]) W' ∧ Fr S W W') ∨ (b = false ∧ Jx (pre ++ [x]) W'))) by
    obtain ⟨fn, tmps, assign, body, hy, hR⟩ := hY pre x W hj hl
    refine ⟨fn, tmps, assign, body, hy, hR.mono ?_⟩
    rintro e W3 (⟨rfl, hJ3, hk3⟩ | ⟨rfl, hJx3⟩)
    · exact ⟨true, rfl, .inl ⟨rfl, hJ3, hk3⟩⟩
    · exact ⟨false, rfl, .inr ⟨rfl, hJx3⟩⟩)
  have HJJ := Lib.hid (fun s w w' => abides_fr0 hJ (s := s) (w := w) (w' := w'))
  obtain ⟨ck, hck⟩ : ∃ c, c = (byts key).toArray := ⟨_, rfl⟩
  rw [← hck] at hbk HB
  obtain ⟨Bv, hBv⟩ : ∃ b : Nat → List UInt8, b = blkL key n := ⟨_, rfl⟩
  rw [← hBv] at HB HYY
  clear hck hBv hY hJ
  refine callsIn_of_wp Try.func61 rfl trivial ?_ rfl
  simp only [Try.ntmps61, List.size_toArray, List.length_cons, List.length_nil, Nat.reduceAdd, Nat.reduceSub, Array.replicate_succ, Array.replicate_zero, List.push_toArray, List.append_toArray, List.nil_append, List.cons_append]
  have c2 := h2.cell 0 rfl
  gi_wp2
  · gi_loopw [8] (fun v8 wr => ∃ k : Nat, k ≤ many ∧ v8 = .int .i64 (k : Int) ∧ J (List.range k) wr ∧ Blk wr g0 #[.func (.func 48) #[] #[.pointer (some ⟨gn, 0, none⟩), .pointer (some ⟨gk, 0, none⟩)]] 63 ∧ Blk wr g1 #[.int .i64 0] 3 ∧ Blk wr g2 #[.int .i64 (many : Int)] 3 ∧
        Blk wr gn #[.int .u64 (n : Int)] 22 ∧ Blk wr gk ck 31) (fun v8 _ => many - (intOf v8).toNat)
    case atStart => exact ⟨0, by omega, rfl, hJ0, h0, h1, h2, hbn, hbk⟩
    case round =>
      obtain ⟨k, hkm, rfl, hJk, k0, k1, k2, kn, kk⟩ := hrel
      clear h0 h1 h2 hbn hbk hJ0 c2
      by_cases hlt : k < many
      · have i1 : (k : Int) < (many : Int) := by omega
        have q0 := HB.out k (by omega)
        have c0 := k0.cell 0 rfl
        have c1 := k1.cell 0 rfl
        gi_wp2
        have hm2 : Try.prog.follows .mixedOrders = true := by kernel_rfl
        have d1 : wr.drew.cell? ⟨g1, 0, none⟩ = some (.int .i64 0) := c1
        have d0 : wr.drew.cell? ⟨g0, 0, none⟩ = some (.func (.func 48) #[] #[.pointer (some ⟨gn, 0, none⟩), .pointer (some ⟨gk, 0, none⟩)]) := c0
        have kn' := kn.drew
        have kk' := kk.drew
        have qw : IntKind.i64.wrap (k : Int) = (k : Int) := IntWalk.i64_in _ (by omega)
        have J1 := HJJ.out _ _ _ hJk ((Fr0.refl _).drew)
        gi_region_with_o (first
          | (refine hR.mono ?_; rintro e W3 ⟨b, rfl, hX⟩)
          | (refine ⟨fun h => (by cases h), ?_⟩; refine hR.mono ?_; rintro e W3 ⟨b, rfl, hX⟩)
          | (refine ⟨trivial, fun h => (by cases h), ?_⟩; gi_at_call 48; refine CallsIn.mono (callsIn_wide.2 (q0 _ kn' kk')) ?_; rintro e W2 ⟨rfl, hf⟩; have J2 := HJJ.out _ _ _ J1 hf; have e1 := Fr0.cell hf d1; obtain ⟨fn, tmps, assign, body, hy, hR⟩ := HYY.out _ k W2 J2 (by simp; omega)))
        all_goals
          (rcases hX with ⟨rfl, hJ3, hk3⟩ | ⟨rfl, hJx3⟩
           · have m0 := (k0.drew.fr0 hf).fr hk3 hS.1
             have m1 := (k1.drew.fr0 hf).fr hk3 hS.2.1
             have m2 := (k2.drew.fr0 hf).fr hk3 hS.2.2.1
             have mn := (kn.drew.fr0 hf).fr hk3 hS.2.2.2.1
             have mk := (kk.drew.fr0 hf).fr hk3 hS.2.2.2.2
             gi_wp2
             go_roundw
             case rel => exact ⟨k + 1, by omega, by go_num, by rw [List.range_succ]; exact hJ3, m0, m1, m2, mn, mk⟩
             case measure => simp [intOf]; omega
           · gi_wp2
             refine bodyPost_ret (results_none rfl _ _ _) rfl ?_
             exact ⟨⟨_, rfl⟩, .inr ⟨_, trivial, hJx3⟩⟩)
      · obtain rfl : k = many := by omega
        gi_wp2
        go_end0
        exact ⟨⟨_, rfl⟩, .inl ⟨_, rfl, hJk⟩⟩
end Go.Proofs.Ytpmindbipclphaa
set_option linter.unusedSimpArgs false
set_option linter.unusedVariables false
namespace Go.Proofs.Ytpmindbipclphaa
open Go.RowKit
attribute [local go_sem] Oper.semAt_some

/-- A text turned by so many blocks. -/
def tnP (key : List UInt8) (n : Nat) (text : List UInt8) (pre : List Nat) : List UInt8 := (List.range text.length).map fun i => text.getD i 0 ^^^ (blkL key n (pre.getD (i / 16) 0)).getD (i % 16) 0
theorem tnP_len (key : List UInt8) (n : Nat) (text : List UInt8) (pre : List Nat) : (tnP key n text pre).length = text.length := by simp [tnP]
theorem tnP_at (key : List UInt8) (n : Nat) (text : List UInt8) (pre : List Nat) {i : Nat} (h : i < text.length) : (tnP key n text pre).getD i 0 = text.getD i 0 ^^^ (blkL key n (pre.getD (i / 16) 0)).getD (i % 16) 0 := by simp [tnP, List.getD, h]
theorem tnP_all (key : List UInt8) (n : Nat) (text : List UInt8) {m : Nat} (h : text.length ≤ 16 * m) : tnP key n text (List.range m) = tnL key n text := by
  unfold tnP tnL strB
  refine List.map_congr_left fun i hi => ?_
  have := List.mem_range.1 hi
  rw [show (List.range m).getD (i / 16) 0 = i / 16 by simp [List.getD, show i / 16 < m by omega]]
theorem tnP_more (key : List UInt8) (n : Nat) (text : List UInt8) (pre : List Nat) (x : Nat) : (tnP key n text (pre ++ [x])).take (min (16 * pre.length) text.length) = (tnP key n text pre).take (min (16 * pre.length) text.length) := by
  unfold tnP
  rw [← List.map_take, ← List.map_take]
  refine List.map_congr_left fun i hi => ?_
  obtain ⟨j, hj, rfl⟩ := List.mem_take_iff_getElem.1 hi
  simp only [List.getElem_range]
  simp only [List.length_range] at hj
  rw [show (pre ++ [x]).getD (j / 16) 0 = pre.getD (j / 16) 0 by simp [List.getD, List.getElem?_append_left (show j / 16 < pre.length by omega)]]
theorem fill_more (key : List UInt8) (n : Nat) (text : List UInt8) (pre : List Nat) (x : Nat) : fillU (tnP key n text (pre ++ [x])) text.length (min (16 * pre.length) text.length) = fillU (tnP key n text pre) text.length (min (16 * pre.length) text.length) := by
  unfold fillU; rw [tnP_more]
/-- What a byte of the block that has just come is. -/
theorem tnP_new (key : List UInt8) (n : Nat) (text : List UInt8) (pre : List Nat) (x : Nat) {i j : Nat} (hi : i = min (16 * pre.length) text.length) (hl : i + j < text.length) (hj : j < 16) :
    (tnP key n text (pre ++ [x])).getD (i + j) 0 = text.getD (i + j) 0 ^^^ (blkL key n x).getD j 0 := by
  rw [tnP_at key n text _ hl, show (i + j) / 16 = pre.length by omega, show (i + j) % 16 = j by omega]
  simp [List.getD]
theorem Blk.grown {X Y : World} {row : Option Nat} {g : Nat} {vs : Array Value} {t : TypeId} (h : Blk X g vs t) (hg : X.grownBy Y row) (hr : ∀ r, row = some r → ∃ o : Obj, X.heap[r]? = some o ∧ o.isCells = false) : Blk Y g vs t :=
  (hg.block g h.lt (fun e => by obtain ⟨o, ho, hc⟩ := hr g e.symm; rw [show X.heap[g]? = _ from h] at ho; cases ho; cases hc)).trans h
theorem Fr.keeps {S : Nat → Prop} {B : Nat} {W W' : World} (h : Fr S W W') (hs : ∀ k, S k → ∃ vs t, Blk W k vs t) : KeepsFrom B W W' :=
  ⟨h.size, fun k o _ hk hc => (h.block k (Array.getElem?_eq_some_iff.1 hk).1 (fun hS => by obtain ⟨vs, t, hb⟩ := hs k hS; rw [show W.heap[k]? = _ from hb] at hk; cases hk; cases hc)).trans hk⟩
theorem list_make_b {ops : Array Oper} {rest : List Oper} {o : Oper} {a : Act} {w : World} {Q : Exit → Act → World → Prop} (hgd : o.guard = none) (x y : Operand) (ho : o.op = .makeSlice 35 x y) (n : Nat) (hx : a.eval x = .int .i64 (n : Int)) (hy : a.eval y = .int .i64 (n : Int)) (hn : n ≤ 1000000)
    (h : ∀ g W1, Blk W1 g (byts (List.replicate n 0)).toArray 5 → Fr0 w W1 → w.heap.size ≤ g → wpList Try.prog ops Q rest (a.put o.dst (.slice (some ⟨g, 0, none⟩) n n)) W1) : wpList Try.prog ops Q (o :: rest) a w := by
  obtain ⟨i, hi, hz0, hz1, hz2⟩ := info_parts infoB2
  have hr := run_make (P := Try.prog) w 35 5 i _ Try.underlying35 hi hz0 .i64 .i64 (n : Int) (n : Int) (by omega) (Int.le_refl _) (by rw [hz2]; omega) (by omega)
  rw [Int.toNat_natCast, hz1, Nat.mul_one] at hr
  refine wpList_plain hgd fun K hK => ?_
  unfold Oper.wp execOp
  simp only [ho, hx, hy, Sem.run_bind, hr, Result.andThen_ok]
  refine hK _ _ (h w.heap.size _ ?_ ((Fr0.refl w).alloc _) (Nat.le_refl _))
  have hb := Blk.new w (madeCells (Value.int .u8 0).cells n) 5
  rw [show (madeCells (Value.int .u8 0).cells n) = (byts (List.replicate n 0)).toArray from by
    apply Array.toList_inj.1
    rw [show (Value.int .u8 0).cells = #[Value.int .u8 0] from rfl, toList_madeCells_one]
    simp [byts]] at hb ⊢
  exact hb
def left16 (x : Nat) (w : World) : Nat := match w.cell? ⟨x, 0, none⟩ with | some v => 16 - (intOf v).toNat | none => 0
theorem left16_eq {x : Nat} {w : World} {j : Int} {t : TypeId} (h : Blk w x #[.int .i64 j] t) : left16 x w = 16 - j.toNat := by unfold left16; rw [h.cell 0 rfl]; rfl
theorem two_boxes {W : World} {x y g : Nat} {tx ty tg : TypeId} {vs : Array Value} {vx vy : Value} (ux uy : Value) (hxy : x ≠ y) (hx : g ≠ x) (hy : g ≠ y) (bx : Blk W x #[vx] tx) (bY : Blk W y #[vy] ty) (bg : Blk W g vs tg) :
    Blk ((W.setCell ⟨x, 0, none⟩ ux).setCell ⟨y, 0, none⟩ uy) x #[ux] tx ∧ Blk ((W.setCell ⟨x, 0, none⟩ ux).setCell ⟨y, 0, none⟩ uy) y #[uy] ty ∧ Blk ((W.setCell ⟨x, 0, none⟩ ux).setCell ⟨y, 0, none⟩ uy) g vs tg ∧ Fr (fun k => k = x ∨ k = y) W ((W.setCell ⟨x, 0, none⟩ ux).setCell ⟨y, 0, none⟩ uy) := by
  have f1 := (Fr1.refl x W).set 0 ux
  have f2 := (Fr1.refl y (W.setCell ⟨x, 0, none⟩ ux)).set 0 uy
  exact ⟨(show Blk _ x #[ux] tx from bx.set 0 ux).fr1 f2 hxy, show Blk _ y #[uy] ty from (bY.fr1 f1 (fun e => hxy e.symm)).set 0 uy, (bg.fr1 f1 hx).fr1 f2 hy, Fr.trans (Fr.mono f1 (fun _ h => .inl h)) (Fr.mono f2 (fun _ h => .inr h))⟩
set_option maxHeartbeats 4000000 in
set_option maxRecDepth 100000 in
theorem turn0_any {key text : List UInt8} {n gn gk : Nat} {tv : Value} {w : World} (hk : key.length = 16) (hn : n < 18446744073709551616) (ht : RdB w tv text) (htl : text.length ≤ 100000)
    (hbn : Blk w gn #[.int .u64 (n : Int)] 22) (hbk : Blk w gk (byts key).toArray 31) :
    Calls Try.prog 32 #[.func (.func 48) #[] #[.pointer (some ⟨gn, 0, none⟩), .pointer (some ⟨gk, 0, none⟩)], .int .i64 0, tv] w fun e w' => ∃ g, e = .returned (.slice (some ⟨g, 0, none⟩) text.length text.length) ∧ Blk w' g (byts (tnL key n text)).toArray 5 ∧ w.heap.size ≤ g ∧ Fr0 w w' := by
  obtain ⟨At, ct, rfl, -, -, -⟩ := ht.form
  have HTX := Lib.hid (show RdB w (.slice At text.length ct) text from ht)
  obtain ⟨len, hlen⟩ : ∃ l, l = text.length := ⟨_, rfl⟩
  rw [← hlen] at HTX htl ⊢
  obtain ⟨q, hq⟩ : ∃ q, q = len / 16 := ⟨_, rfl⟩
  have q1 : (len : Int).tdiv 16 = (q : Int) := by rw [Int.tdiv_eq_ediv_of_nonneg (by omega)]; omega
  have q1' : (len : Int) / 16 = (q : Int) := by omega
  have q3 : IntKind.i64.wrap (q : Int) = (q : Int) := IntWalk.i64_in _ (by omega)
  have q4 : IntKind.i64.wrap ((q : Int) + 2) = (q : Int) + 2 := IntWalk.i64_in _ (by omega)
  have HW := Lib.hid (fun (W : World) => walk_any (gn := gn) (gk := gk) (i := 0) (m := (q : Int) + 2) W)
  have BN := Lib.hid hbn
  have BK := Lib.hid hbk
  have HLN := Lib.hid hlen
  have HQ := Lib.hid hq
  clear hlen hq ht hbn hbk
  refine (callsIn_wide (n := 9)).1 (callsIn_of_wp_marks Try.func32 rfl trivial ?_ rfl)
  simp only [Try.ntmps32, List.size_toArray, List.length_cons, List.length_nil, Nat.reduceAdd, Nat.reduceSub, Array.replicate_succ, Array.replicate_zero, List.push_toArray, List.append_toArray, List.nil_append, List.cons_append]
  refine wpIn_wide.2 ?_
  go_upto_region 3 with (refine list_make_b rfl _ _ rfl len rfl rfl (by omega) ?_; intro gs w2 hB hF hl; have BS := Lib.hid hB; have B5 := Lib.hid ((Blk.new w #[.slice At len ct] 35).fr0 hF); have F2 := Lib.hid hF; have LS := Lib.hid hl; clear hB hF hl)
  have S2 := (F2.out).size
  have LS2 := LS.out
  have LT2 := (BS.out).lt
  simp only [World.size_alloc] at S2 LS2
  obtain ⟨x7, x8, x9, h7, h8, h9⟩ : ∃ x7 x8 x9, x7 = w2.heap.size ∧ x8 = w2.heap.size + 1 ∧ x9 = w2.heap.size + 1 + 1 := ⟨_, _, _, rfl, rfl, rfl⟩
  have b7 := (Blk.new w2 #[.slice (some ⟨gs, 0, none⟩) len len] 35).alloc (.cells #[.int .i64 0] 3) |>.alloc (.cells #[.int .i64 0] 3)
  have b8 := (Blk.new (w2.alloc (.cells #[.slice (some ⟨gs, 0, none⟩) len len] 35)) #[.int .i64 0] 3).alloc (.cells #[.int .i64 0] 3)
  have b9 := Blk.new ((w2.alloc (.cells #[.slice (some ⟨gs, 0, none⟩) len len] 35)).alloc (.cells #[.int .i64 0] 3)) #[.int .i64 0] 3
  have b5 := (((B5.out).alloc (.cells #[.slice (some ⟨gs, 0, none⟩) len len] 35)).alloc (.cells #[.int .i64 0] 3)).alloc (.cells #[.int .i64 0] 3)
  have bs := (((BS.out).alloc (.cells #[.slice (some ⟨gs, 0, none⟩) len len] 35)).alloc (.cells #[.int .i64 0] 3)).alloc (.cells #[.int .i64 0] 3)
  have f8 : Fr0 w _ := ((((Fr0.refl w).alloc (.cells #[.slice At len ct] 35)).trans F2.out).alloc (.cells #[.slice (some ⟨gs, 0, none⟩) len len] 35)).alloc (.cells #[.int .i64 0] 3) |>.alloc (.cells #[.int .i64 0] 3)
  simp only [World.size_alloc] at b7 b8 b9 b5 bs
  rw [← h9, ← h8, ← h7]
  rw [← h9] at b9
  rw [← h8] at b8
  rw [← h7] at b7
  obtain ⟨x5, h5⟩ : ∃ x, x = w.heap.size := ⟨_, rfl⟩
  rw [← h5] at b5 ⊢
  obtain ⟨w8, hw8⟩ : ∃ W, W = ((w2.alloc (.cells #[.slice (some ⟨gs, 0, none⟩) len len] 35)).alloc (.cells #[.int .i64 0] 3)).alloc (.cells #[.int .i64 0] 3) := ⟨_, rfl⟩
  rw [← hw8] at b5 b7 b8 b9 bs f8 ⊢
  have o1 : x5 < gs := by omega
  have o2 : gs < x7 := by omega
  have o3 : x7 < x8 := by omega
  have o4 : x8 < x9 := by omega
  have o5 := b9.lt
  have kn := (BN.out).fr0 f8
  have kk := (BK.out).fr0 f8
  have o6 : gn < x5 := by rw [h5]; exact (BN.out).lt
  have o7 : gk < x5 := by rw [h5]; exact (BK.out).lt
  have c5 := b5.cell 0 rfl
  have H5 := Lib.hid h5
  clear h5 hw8 h7 h8 h9 B5 BS F2 LS LT2 S2 LS2
  go_wp2_with (go_at_call 47; refine (HW.out _).mono ?_; rintro e w9 ⟨g0, g1, g2, rfl, B0, B1, B2, l0, l1, l2, hf⟩)
  rw [show (q : Int) + 2 = ((q + 2 : Nat) : Int) by omega] at B2
  have C5 := b5.fr0 hf
  have C7 := b7.fr0 hf
  have C8 := b8.fr0 hf
  have C9 := b9.fr0 hf
  have CS := bs.fr0 hf
  have F9 := Fr0.trans f8 hf
  have CN := kn.fr0 hf
  have CK := kk.fr0 hf
  have o8 := (f8).size
  have o9 := hf.size
  have o10 := B0.lt
  have o11 := B1.lt
  have o12 := B2.lt
  clear b5 b7 b8 b9 bs f8 hf kn kk HW c5
  obtain ⟨S, hS⟩ : ∃ S : Nat → Prop, S = fun k => k = x8 ∨ k = x9 ∨ k = gs ∨ w9.heap.size ≤ k := ⟨_, rfl⟩
  have HSS : ∀ k, S k ↔ (k = x8 ∨ k = x9 ∨ k = gs ∨ w9.heap.size ≤ k) := fun k => by rw [hS]
  have HSEQ : SeqStopsK Fence.wide (9 - 1) Try.prog 61 #[.pointer (some ⟨g2, 0, none⟩), .pointer (some ⟨g1, 0, none⟩), .pointer (some ⟨g0, 0, none⟩)] (fun x : Nat => #[Value.int .i64 (x : Int), .agg (byts (blkL key n x)).toArray]) (Fr S) (fun ys => ys = List.range (q + 2)) (fun _ => True) (q + 2) w9 :=
    fun l J Jx W hW hJ hJx hY h0 => walk1_in (S := S) (d := 8) hk hn (by omega) (by omega) l J Jx W.heap.size hJ (by simp only [HSS]; refine ⟨?_, ?_, ?_, ?_, ?_⟩ <;> omega) hY W (B0.fr0 (Fr0.of_below hW)) (B1.fr0 (Fr0.of_below hW)) (B2.fr0 (Fr0.of_below hW)) (CN.fr0 (Fr0.of_below hW)) (CK.fr0 (Fr0.of_below hW)) h0
  refine (wpIn_wide (n := 9)).1 ?_
  have TL := Lib.hid (fun pre => (tnP_len key n text pre).trans (HLN.out).symm)
  have TM := Lib.hid (fun pre x => fill_more key n text pre x)
  have TN := Lib.hid (fun pre x i j (h1 : i = min (16 * pre.length) text.length) h2 h3 => tnP_new key n text pre x (i := i) (j := j) h1 h2 h3)
  have TA := Lib.hid (tnP_all key n text (m := q + 2) (by have := HQ.out; have := HLN.out; omega))
  have BL := Lib.hid (blkL_len key n)
  rw [← HLN.out] at TM TN
  obtain ⟨T, hT⟩ : ∃ t, t = tnP key n text := ⟨_, rfl⟩
  rw [← hT] at TL TM TN TA
  obtain ⟨bl, hbl⟩ : ∃ b, b = blkL key n := ⟨_, rfl⟩
  rw [← hbl] at HSEQ TN BL
  have e0 : fillU (T []) len (min (16 * ([] : List Nat).length) len) = List.replicate len 0 := by
    rw [show min (16 * ([] : List Nat).length) len = 0 by simp, fillU_zero]
  refine wpIn_rangeFunc_ownH (F := Fence.wide) rfl (by decide) (gf := 61) (lb := #[.pointer (some ⟨g2, 0, none⟩), .pointer (some ⟨g1, 0, none⟩), .pointer (some ⟨g0, 0, none⟩)]) rfl trivial (enters_of Try.func61 (by kernel_rfl) rfl) HSEQ
    (fun h1 h2 => Fr.trans h1 h2) (fun W l o o' hl _ _ _ => Fr.grown (Fr.refl S W) (grownBy_putObj' W l o') (fun k e => .inl (by cases e; exact (HSS _).2 (.inr (.inr (.inr hl)))))) (Below.refl _ _) (fun _ => rfl)
    (fun pre W => (Blk W x5 #[.slice At len ct] 35 ∧ Blk W x7 #[.slice (some ⟨gs, 0, none⟩) len len] 35 ∧ Blk W x8 #[.int .i64 ((min (16 * pre.length) len : Nat) : Int)] 3 ∧ Blk W x9 #[.int .i64 0] 3 ∧ Blk W gs (byts (fillU (T pre) len (min (16 * pre.length) len))).toArray 5) ∧ Fr0 w W ∧ w9.heap.size ≤ W.heap.size)
    (fun _ _ _ => False)
    (fun s X Y row hs hg hr => ⟨⟨hs.1.1.grown hg (fun r e => (hr r e).2), hs.1.2.1.grown hg (fun r e => (hr r e).2), hs.1.2.2.1.grown hg (fun r e => (hr r e).2), hs.1.2.2.2.1.grown hg (fun r e => (hr r e).2), hs.1.2.2.2.2.grown hg (fun r e => (hr r e).2)⟩, hs.2.1.grown hg (fun k e => .inr (by have := (hr k e).1; omega)), Nat.le_trans hs.2.2 hg.size⟩)
    (fun _ _ _ _ _ hs _ _ => hs)
    ⟨⟨C5, C7, by rw [show min (16 * ([] : List Nat).length) len = 0 by simp]; exact C8, C9, by rw [e0]; exact CS⟩, F9, Nat.le_refl _⟩
    (fun x a' W => ∃ Bx, w9.heap.size ≤ Bx ∧ Blk W Bx (byts (bl x)).toArray 31 ∧ ∃ v25 v26, a' = { tmps := #[.func (.func 48) #[] #[.pointer (some ⟨gn, 0, none⟩), .pointer (some ⟨gk, 0, none⟩)], .int .i64 0, .slice At len ct, undef, undef, .pointer (some ⟨x5, 0, none⟩), .slice none 0 0, .pointer (some ⟨x7, 0, none⟩), .pointer (some ⟨x8, 0, none⟩), .pointer (some ⟨x9, 0, none⟩), undef, .pointer (some ⟨Bx, 0, none⟩),
        .slice At len ct, .int .i64 (len : Int), .slice (some ⟨gs, 0, none⟩) len len, .int .i64 0, .int .i64 0, .func (.func 48) #[] #[.pointer (some ⟨gn, 0, none⟩), .pointer (some ⟨gk, 0, none⟩)], .int .i64 0, .int .i64 0, .slice At len ct, .int .i64 (len : Int), .int .i64 (q : Int), .int .i64 ((q : Int) + 2), .func (.func 61) #[] #[.pointer (some ⟨g2, 0, none⟩), .pointer (some ⟨g1, 0, none⟩), .pointer (some ⟨g0, 0, none⟩)], v25, v26,
        undef, undef, undef, undef, undef, undef, undef, undef, undef, undef, undef, undef, undef, undef, undef, undef, undef, undef, undef, undef, undef, undef, undef, undef], defers := [] })
    (fun x a' _ X Y row hs hg hr => by obtain ⟨Bx, e1, e2, e3⟩ := hs; exact ⟨Bx, e1, e2.grown hg (fun r e => (hr r e).2), e3⟩)
    ?assign ?body ?done ?stop
  case assign =>
    rintro l pre x W K ⟨⟨i5, i7, i8, i9, is⟩, hF, hw9⟩ hK
    refine wpInR_region (fun _ _ h => h) (by kernel_rfl) ?_
    refine list_alloc_blk rfl 31 rfl z16A (fun W => z16_run W) ?_
    intro gx wa hB hA hl
    refine list_store_blk rfl 31 _ _ rfl gx (byts (bl x)).toArray (by kernel_rfl) (by kernel_rfl) 31 z16A hB (a16_info (BL.out x)) (z16_size (BL.out x)) (byts_all _) ?_
    intro wb hB2 hA2
    refine wpList_nil ?_
    have hAB : Fr0 W wb := Fr0.new hA hA2 hl
    have hsz := hF.size
    have k9 := C9.lt
    refine hK _ _ (Fr.keeps hAB (fun _ h => h.elim)) (Fr.mono hAB (fun _ h => h.elim)) ⟨⟨i5.fr0 hAB, i7.fr0 hAB, i8.fr0 hAB, i9.fr0 hAB, is.fr0 hAB⟩, Fr0.trans hF hAB, Nat.le_trans hw9 hAB.size⟩ ⟨gx, ?_, hB2, .int .i64 (x : Int), .agg (byts (bl x)).toArray, by kernel_rfl⟩
    exact Nat.le_trans hw9 hl
  case body =>
    rintro l pre x a' W hl ⟨r, hr⟩ ⟨⟨i5, i7, i8, i9, is⟩, hF, hw9⟩ ⟨Bx, hBx, bX, v25, v26, rfl⟩ hlt
    have SM := Lib.hid (fun j (h1 : min (16 * pre.length) len + j < len) (h2 : j < 16) => TN.out pre x _ j rfl h1 h2)
    rw [← TM.out pre x] at is
    have TL2 := Lib.hid (TL.out (pre ++ [x]))
    have LEN2 : (pre ++ [x]).length = pre.length + 1 := by simp
    have LE := Lib.hid LEN2
    obtain ⟨m0, hm0⟩ : ∃ m, m = min (16 * pre.length) len := ⟨_, rfl⟩
    rw [← hm0] at is i8 SM
    obtain ⟨T2, hT2⟩ : ∃ t, t = T (pre ++ [x]) := ⟨_, rfl⟩
    rw [← hT2] at is SM TL2
    have HT2 := Lib.hid hT2
    have HM0 := Lib.hid hm0
    have hm1 : m0 ≤ len := by omega
    obtain ⟨bx, hbx⟩ : ∃ b, b = bl x := ⟨_, rfl⟩
    have BLX := Lib.hid (BL.out x)
    rw [← hbx] at bX SM BLX
    have E1 := Lib.hid o1
    have kx := bX.lt
    obtain ⟨S2, hS2⟩ : ∃ S : Nat → Prop, S = fun k => k = x8 ∨ k = x9 ∨ k = gs := ⟨_, rfl⟩
    have HS2 := Lib.hid (fun k => show S2 k ↔ (k = x8 ∨ k = x9 ∨ k = gs) by rw [hS2])
    have NS := Lib.hid (show ¬ S2 x5 ∧ ¬ S2 x7 ∧ ¬ S2 Bx by simp only [HS2.out]; refine ⟨?_, ?_, ?_⟩ <;> omega)
    clear hT2 hm0 hbx hS2 TM TN TA
    gi_wp2
    clear HSEQ hl hr C5 C7 C8 C9 CS F9 CN CK B0 B1 B2 o6 o7 o8 o9 o10 o11 o12 l0 l1 l2 e0 hT hbl hk hn q1 q1' q3 q4
    have i5' := Lib.hid i5
    have i7' := Lib.hid i7
    have bX' := Lib.hid bX
    have hF' := Lib.hid hF
    have FIN := Lib.hid (show ∀ (wr : World) (v : Value) (j m : Nat), m = m0 + j → (m = len ∨ j = 16) → j ≤ 16 → m ≤ len → Blk wr x8 #[.int .i64 (m : Int)] 3 → Blk wr x9 #[v] 3 → Blk wr gs (byts (fillU T2 len m)).toArray 5 → Fr S2 W wr →
        KeepsFrom w9.heap.size W (wr.setCell ⟨x9, 0, none⟩ (.int .i64 0)) ∧ Fr S W (wr.setCell ⟨x9, 0, none⟩ (.int .i64 0)) ∧ ((Blk (wr.setCell ⟨x9, 0, none⟩ (.int .i64 0)) x5 #[.slice At len ct] 35 ∧ Blk (wr.setCell ⟨x9, 0, none⟩ (.int .i64 0)) x7 #[.slice (some ⟨gs, 0, none⟩) len len] 35 ∧ Blk (wr.setCell ⟨x9, 0, none⟩ (.int .i64 0)) x8 #[.int .i64 ((min (16 * (pre ++ [x]).length) len : Nat) : Int)] 3 ∧ Blk (wr.setCell ⟨x9, 0, none⟩ (.int .i64 0)) x9 #[.int .i64 0] 3 ∧ Blk (wr.setCell ⟨x9, 0, none⟩ (.int .i64 0)) gs (byts (fillU (T (pre ++ [x])) len (min (16 * (pre ++ [x]).length) len))).toArray 5) ∧ Fr0 w (wr.setCell ⟨x9, 0, none⟩ (.int .i64 0)) ∧ w9.heap.size ≤ (wr.setCell ⟨x9, 0, none⟩ (.int .i64 0)).heap.size) from by
      intro wr v j m e1 e2 ej e3 k8 k9 ks kf
      have em : min (16 * (pre ++ [x]).length) len = m := by rw [LE.out]; have := HM0.out; omega
      have rf := (Fr1.refl x9 wr).set 0 (.int .i64 0)
      have rF : Fr S2 W (wr.setCell ⟨x9, 0, none⟩ (.int .i64 0)) := Fr.trans kf (Fr.mono rf (fun k h => (HS2.out k).2 (.inr (.inl h))))
      rw [em, ← HT2.out]
      refine ⟨Fr.keeps rF (fun k h => ?_), Fr.mono rF (fun k h => ?_), ⟨(i5'.out).fr rF (NS.out).1, (i7'.out).fr rF (NS.out).2.1, k8.fr1 rf (by omega), k9.set 0 _, ks.fr1 rf (by omega)⟩, Fr.then hF rF (fun k h _ => ?_), Nat.le_trans hw9 rF.size⟩
      · rcases (HS2.out k).1 h with rfl | rfl | rfl
        · exact ⟨_, _, i8⟩
        · exact ⟨_, _, i9⟩
        · exact ⟨_, _, is⟩
      · rcases (HS2.out k).1 h with rfl | rfl | rfl
        · exact (HSS _).2 (.inl rfl)
        · exact (HSS _).2 (.inr (.inl rfl))
        · exact (HSS _).2 (.inr (.inr (.inl rfl)))
      · have := (HS2.out k).1 h
        have := H5.out
        omega)
    gi_loopw [] (fun wr => ∃ j : Nat, j ≤ 16 ∧ m0 + j ≤ len ∧ Blk wr x8 #[.int .i64 ((m0 + j : Nat) : Int)] 3 ∧ Blk wr x9 #[.int .i64 (j : Int)] 3 ∧ Blk wr gs (byts (fillU T2 len (m0 + j))).toArray 5 ∧ Fr S2 W wr) (fun wr => left16 x9 wr)
    case atStart => exact ⟨0, by omega, by omega, i8, i9, is, Fr.refl _ _⟩
    case round =>
      obtain ⟨j, hj, hml, k8, k9, ks, kf⟩ := hrel
      clear i5 i7 i8 i9 is bX
      have j5 := (i5'.out).fr kf (NS.out).1
      have j7 := (i7'.out).fr kf (NS.out).2.1
      have jX := (bX'.out).fr kf (NS.out).2.2
      obtain ⟨m, hm⟩ : ∃ m, m = m0 + j := ⟨_, rfl⟩
      rw [← hm] at hml k8 ks
      have HMJ := Lib.hid hm
      have K9O := Lib.hid k9
      have c5 := j5.cell 0 rfl
      have c7 := j7.cell 0 rfl
      have c8 := k8.cell 0 rfl
      have c9 := k9.cell 0 rfl
      have i0 : (0 : Int) ≤ (m : Int) := by omega
      by_cases h1 : m < len
      · have i1 : (m : Int) < (len : Int) := by omega
        by_cases h2 : j < 16
        · have j1 : (j : Int) < 16 := by omega
          have j0 : (0 : Int) ≤ (j : Int) := by omega
          have hil : m < text.length := by rw [← HLN.out]; exact h1
          obtain ⟨ga, oa, ca', hva, hca, hga, da⟩ := (show RdB w (.slice At text.length ct) text by rw [← HLN.out]; exact HTX.out).cell hil
          injection hva with hA1 _ hA2
          subst hA1 hA2
          have hel : text[m] = text.getD m 0 := by simp [List.getD, hil]
          rw [hel] at da
          have hsm := (SM.out) j (by rw [← hm]; exact h1) h2
          rw [← hm] at hsm
          have da2 := Fr.cell (p := ⟨ga, oa + m, none⟩) kf (by show ¬ S2 ga; have := H5.out; simp only [HS2.out]; omega) ((hF'.out).cell da)
          have cx := jX.u8 (i := j) (by rw [BLX.out]; exact h2)
          have HN := Lib.hid (ks.fill TL2.out h1)
          have fs := ks.free m
          have cs := ks.u8 (i := m) (by rw [fillU_len TL2.out hml]; exact h1)
          obtain ⟨xx, hx⟩ : ∃ x, x = text.getD m 0 := ⟨_, rfl⟩
          obtain ⟨y, hy⟩ : ∃ y, y = bx.getD j 0 := ⟨_, rfl⟩
          obtain ⟨t, htt⟩ : ∃ t, t = T2.getD m 0 := ⟨_, rfl⟩
          rw [← hx, ← hy, ← htt] at hsm
          rw [← htt] at HN
          rw [← hx] at da2
          rw [← hy] at cx
          have hxy := xorU xx y
          rw [← hsm] at hxy
          clear hx hy htt hsm hm da hga hel hil
          gi_wp2
          refine wpInR_still_tail 11 (by kernel_rfl) (by kernel_rfl) (by kernel_rfl) (fun _ _ h => h) ?_
          simp only [List.take_succ_cons, List.take_zero, List.drop_succ_cons, List.drop_zero]
          repeat still_step
          try refine wpStill_nil ?_
          go_wp2_with fail
          obtain ⟨wb, hwb⟩ : ∃ W, W = (wr.setCell ⟨gs, m, none⟩ (.int .u8 (t.toNat : Int))).drew := ⟨_, rfl⟩
          have FB : Fr1 gs wr wb := by rw [hwb]; exact ((Fr1.refl gs wr).set m (.int .u8 (t.toNat : Int))).drew
          have HB : Blk wb gs (byts (fillU T2 len (m + 1))).toArray 5 := by rw [hwb]; exact (HN.out).drew
          rw [← hwb]
          have b8 := k8.fr1 FB (by omega)
          have b9 := k9.fr1 FB (by omega)
          clear hwb HN fs cs c5 c7 c8 c9 cx da2 hxy k8 k9 ks
          have c8 := b8.cell 0 rfl
          have c9 := b9.cell 0 rfl
          have f8 := b8.free 0
          have f9 := b9.free 0
          have w8' : IntKind.i64.wrap ((m : Int) + 1) = (m : Int) + 1 := IntWalk.i64_in _ (by omega)
          have w9' : IntKind.i64.wrap ((j : Int) + 1) = (j : Int) + 1 := IntWalk.i64_in _ (by omega)
          have hm2 : Try.prog.follows .mixedOrders = true := by kernel_rfl
          have kf2 : Fr S2 W wb := Fr.trans kf (Fr.mono FB (fun k h => (HS2.out k).2 (.inr (.inr h))))
          gi_region_with_o fail
          all_goals
            (gi_wp2
             go_roundw
             case rel =>
               first
                 | (obtain ⟨r8, r9, rs, rf⟩ := two_boxes (.int .i64 ((m : Int) + 1)) (.int .i64 ((j : Int) + 1)) (show x8 ≠ x9 by omega) (show gs ≠ x8 by omega) (show gs ≠ x9 by omega) b8.drew b9.drew HB.drew
                    exact ⟨j + 1, by omega, by have := HMJ.out; omega, by rw [show m0 + (j + 1) = m + 1 by have := HMJ.out; omega]; exact r8, r9, by rw [show m0 + (j + 1) = m + 1 by have := HMJ.out; omega]; exact rs, Fr.trans kf2.drew (Fr.mono rf (fun k h => (HS2.out k).2 (by rcases h with h | h; exact .inl h; exact .inr (.inl h))))⟩)
                 | (obtain ⟨r9, r8, rs, rf⟩ := two_boxes (.int .i64 ((j : Int) + 1)) (.int .i64 ((m : Int) + 1)) (show x9 ≠ x8 by omega) (show gs ≠ x9 by omega) (show gs ≠ x8 by omega) b9.drew b8.drew HB.drew
                    exact ⟨j + 1, by omega, by have := HMJ.out; omega, by rw [show m0 + (j + 1) = m + 1 by have := HMJ.out; omega]; exact r8, r9, by rw [show m0 + (j + 1) = m + 1 by have := HMJ.out; omega]; exact rs, Fr.trans kf2.drew (Fr.mono rf (fun k h => (HS2.out k).2 (by rcases h with h | h; exact .inr (.inl h); exact .inl h)))⟩)
             case measure =>
               first
                 | (obtain ⟨-, r9, -, -⟩ := two_boxes (.int .i64 ((m : Int) + 1)) (.int .i64 ((j : Int) + 1)) (show x8 ≠ x9 by omega) (show gs ≠ x8 by omega) (show gs ≠ x9 by omega) b8.drew b9.drew HB.drew
                    refine Nat.lt_of_le_of_lt (Nat.le_of_eq (left16_eq (j := (j : Int) + 1) r9)) ?_
                    rw [left16_eq K9O.out]; omega)
                 | (obtain ⟨r9, -, -, -⟩ := two_boxes (.int .i64 ((j : Int) + 1)) (.int .i64 ((m : Int) + 1)) (show x9 ≠ x8 by omega) (show gs ≠ x9 by omega) (show gs ≠ x8 by omega) b9.drew b8.drew HB.drew
                    refine Nat.lt_of_le_of_lt (Nat.le_of_eq (left16_eq (j := (j : Int) + 1) r9)) ?_
                    rw [left16_eq K9O.out]; omega))
        · obtain rfl : j = 16 := by omega
          have f9 := k9.free 0
          clear hm
          gi_wp2
          exact FIN.out _ _ _ _ HMJ.out (.inr rfl) (Nat.le_refl _) hml k8 k9 ks kf
      · obtain rfl : m = len := by omega
        have f9 := k9.free 0
        clear hm
        gi_wp2
        exact FIN.out _ _ _ _ HMJ.out (.inl rfl) hj hml k8 k9 ks kf
  case done =>
    rintro D xs W hD rfl ⟨⟨i5, i7, i8, i9, is⟩, hF, hw9⟩ hK
    have e : min (16 * (List.range (q + 2)).length) len = len := by rw [List.length_range]; have := HQ.out; omega
    rw [e, fillU_all (TL.out _), TA.out] at is
    have c7 := i7.cell 0 rfl
    have H5' := H5.out
    have IS := Lib.hid is
    clear is TA TL TN TM BL e0 hT hbl HSEQ
    go_wp2_with fail
    refine ⟨by simp, .inl ⟨_, _, rfl, run_takeDeferred hK, ?_⟩⟩
    have hg := grownBy_putObj' W D (.deferred none)
    exact ⟨_, results_tmp rfl _ _ _, gs, rfl, (IS.out).grown hg (fun r e => by cases e; exact ⟨_, hK, rfl⟩), by omega, hF.grown hg (fun k e => .inr (by cases e; omega))⟩
  case stop =>
    rintro D c pre W _ _ h _
    exact h.elim
end Go.Proofs.Ytpmindbipclphaa
set_option linter.unusedSimpArgs false
set_option linter.unusedVariables false
namespace Go.Proofs.Ytpmindbipclphaa
open Go.RowKit

set_option maxHeartbeats 1000000 in
theorem blocks_any {key : List UInt8} {n : Nat} (w : World) :
    Calls Try.prog 33 #[.agg (byts key).toArray, .int .u64 (n : Int)] w fun e w' => ∃ gk gn, e = .returned (.func (.func 48) #[] #[.pointer (some ⟨gn, 0, none⟩), .pointer (some ⟨gk, 0, none⟩)]) ∧
      Blk w' gk (byts key).toArray 31 ∧ Blk w' gn #[.int .u64 (n : Int)] 22 ∧ Fr0 w w' := by
  obtain ⟨ck, hck⟩ : ∃ c, c = (byts key).toArray := ⟨_, rfl⟩
  rw [← hck]
  clear hck
  go_enter Try.func33, Try.ntmps33
  go_wp2_with fail
  go_ret
  have b0 := Blk.new w ck 31
  have b1 := Blk.new (w.alloc (.cells ck 31)) #[.int .u64 (n : Int)] 22
  simp only [World.size_alloc] at b1
  exact ⟨_, _, rfl, b0.alloc _, b1, ((Fr0.refl w).alloc _).alloc _⟩
set_option maxHeartbeats 1000000 in
theorem pturn_any {key text : List UInt8} {n : Nat} {tv : Value} {w : World} (hk : key.length = 16) (hn : n < 18446744073709551616) (ht : RdB w tv text) (htl : text.length ≤ 100000) :
    Calls Try.prog 22 #[.agg (byts key).toArray, .int .u64 (n : Int), tv] w fun e w' => ∃ g, e = .returned (.slice (some ⟨g, 0, none⟩) text.length text.length) ∧ Blk w' g (byts (tnL key n text)).toArray 5 ∧ w.heap.size ≤ g ∧ Fr0 w w' := by
  have HB := Lib.hid (fun W => blocks_any (key := key) (n := n) W)
  have HT := Lib.hid (fun gn gk W (hr : RdB W tv text) (hbn : Blk W gn #[.int .u64 (n : Int)] 22) (hbk : Blk W gk (byts key).toArray 31) => turn0_any hk hn hr htl hbn hbk)
  have HKI := Lib.hid (a16_info hk)
  have K0 := Lib.hid (Blk.new w (byts key).toArray 31)
  have TX := Lib.hid ht
  obtain ⟨len, hlen⟩ : ∃ l, l = text.length := ⟨_, rfl⟩
  rw [← hlen] at HT ⊢
  obtain ⟨T, hT⟩ : ∃ t, t = tnL key n text := ⟨_, rfl⟩
  rw [← hT] at HT ⊢
  obtain ⟨ck, hck⟩ : ∃ c, c = (byts key).toArray := ⟨_, rfl⟩
  rw [← hck] at HB HT HKI K0 ⊢
  have SA := Lib.hid (show w.heap.size ≤ (w.alloc (.cells ck 31)).heap.size by simp)
  have FA := Lib.hid ((Fr0.refl w).alloc (.cells ck 31))
  clear hck hT hlen ht htl
  go_enter Try.func22, Try.ntmps22
  go_wp2_with (first
    | (go_at_call 32; refine (HT.out gn gk _ TX2.out BN.out BK.out).mono ?_; rintro e w3 ⟨g, rfl, hb, hl, hf⟩; have RB := Lib.hid hb; have RL := Lib.hid (Nat.le_trans (Nat.le_trans SA.out (F2.out).size) hl); have F3 := Lib.hid (Fr0.trans (Fr0.trans FA.out F2.out) hf); clear hb hl hf)
    | (go_at_call 33; refine (HB.out _).mono ?_; rintro e w2 ⟨gk, gn, rfl, hbk, hbn, hf⟩; have F2 := Lib.hid hf; have BK := Lib.hid hbk; have BN := Lib.hid hbn; have TX2 := Lib.hid (((TX.out).fr0 FA.out).fr0 hf); clear hbk hbn hf)
    | (refine list_load_blk rfl 31 _ rfl w.heap.size rfl 31 ck K0.out _ Try.underlying31 rfl HKI.out ?_))
  go_ret
  exact ⟨g, rfl, RB.out, RL.out, F3.out⟩
end Go.Proofs.Ytpmindbipclphaa
namespace Go.Proofs.Ytpmindbipclphaa

/-- The cells of rows. -/
def flat {α : Type} (c : α → List Value) (l : List α) : List Value := l.flatMap c
section
variable {α : Type} {c : α → List Value} {k : Nat}
theorem flat_len (h : ∀ x, (c x).length = k) (l : List α) : (flat c l).length = l.length * k := by
  induction l with
  | nil => simp [flat]
  | cons x r ih => simp only [flat, List.flatMap_cons, List.length_append, List.length_cons, h] at ih ⊢; rw [ih, Nat.add_mul]; omega
theorem flat_at (h : ∀ x, (c x).length = k) (l : List α) (i : Nat) (hi : i < l.length) {j : Nat} (hj : j < k) : (flat c l)[i * k + j]? = (c l[i])[j]? := by
  induction l generalizing i with
  | nil => simp at hi
  | cons x r ih =>
    cases i with
    | zero =>
      simp only [flat, List.flatMap_cons, Nat.zero_mul, Nat.zero_add, List.getElem_cons_zero]
      rw [List.getElem?_append_left (by rw [h]; exact hj)]
    | succ i =>
      have h2 := ih i (by simpa using hi)
      simp only [flat, List.flatMap_cons, List.getElem_cons_succ] at h2 ⊢
      rw [List.getElem?_append_right (by rw [h, Nat.add_mul]; omega), h, show (i + 1) * k + j - k = i * k + j by rw [Nat.add_mul]; omega]
      exact h2
theorem flat_app (l m : List α) : flat c (l ++ m) = flat c l ++ flat c m := by simp [flat]
theorem flat_one (x : α) : flat c [x] = c x := by simp [flat]
theorem flat_take (h : ∀ x, (c x).length = k) (l : List α) (i : Nat) : (flat c l).take (i * k) = flat c (l.take i) := by
  induction l generalizing i with
  | nil => simp [flat]
  | cons x r ih =>
    cases i with
    | zero => simp [flat]
    | succ i =>
      have := ih i
      simp only [flat, List.flatMap_cons, List.take_succ_cons] at *
      rw [show (i + 1) * k = (c x).length + i * k from by rw [h, Nat.add_mul]; omega, List.take_length_add_append, this]
theorem flat_drop (h : ∀ x, (c x).length = k) (l : List α) (i : Nat) : (flat c l).drop (i * k) = flat c (l.drop i) := by
  induction l generalizing i with
  | nil => simp [flat]
  | cons x r ih =>
    cases i with
    | zero => simp [flat]
    | succ i =>
      have := ih i
      simp only [flat, List.flatMap_cons, List.drop_succ_cons] at *
      rw [show (i + 1) * k = (c x).length + i * k from by rw [h, Nat.add_mul]; omega, List.drop_length_add_append, this]
theorem flat_mem (h1 : ∀ x, ∀ u ∈ c x, u.oneCell' = true) (l : List α) : ∀ u ∈ flat c l, u.oneCell' = true := by
  intro u hu
  simp only [flat, List.mem_flatMap] at hu
  obtain ⟨x, _, hx⟩ := hu
  exact h1 x u hx
end
end Go.Proofs.Ytpmindbipclphaa
namespace Go.Proofs.Ytpmindbipclphaa
open Go.ChangeShapes Go.WideShapes Go.ChangeAt Go.RowKit Go.Deep

section
variable {P : Program} {H : Type} {enc : TypeId × Value → H} {w : World} {base : Nat} {spare : Nat → Bool} {held : Bool}
/-- A struct of fields of one cell each: each cell is read at its field's type. -/
theorem read_fields {e : TypeId} {fs : Array Field} {n k : Nat} {cs : List Value} {x : DataW H × List MemPlace} (he : P.underlying e = some (.struct fs))
    (hone : oneCellFields P fs = true) (hC : P.cellsOf e = k) (h : DataW.trod enc P w base spare held n e cs = some x) :
    cs.length = k ∧ ∀ j (hj : j < cs.length) f, fs[j]? = some f → ∃ m y, DataW.trod enc P w base spare held m f.type [cs[j]] = some y := by
  obtain ⟨ys, n', hn', hy, hlen, hyl, hf⟩ := DataW.trod_struct he h
  rw [hC] at hlen
  refine ⟨hlen, fun j hj f hfj => ?_⟩
  obtain ⟨ho, hk⟩ := hone_of hone j f hfj
  have h1 := hf j f hfj
  rw [ho, hk] at h1
  have hone' : (cs.drop j).take 1 = [cs[j]] := by rw [List.drop_eq_getElem_cons hj]; rfl
  rw [hone'] at h1
  have hjl : j < fs.size := (Array.getElem?_eq_some_iff.1 hfj).1
  exact ⟨n', ys[j]'(by omega), h1.trans (List.getElem?_eq_getElem (by omega))⟩
theorem read_int {t : TypeId} {n : Nat} {v : Value} {x : DataW H × List MemPlace} (ht : P.underlying t = some (.int .i64)) (h : DataW.trod enc P w base spare held n t [v] = some x) : ∃ m : Int, v = .int .i64 m ∧ -9223372036854775808 ≤ m ∧ m ≤ 9223372036854775807 := by
  obtain ⟨m, hm, _, hw⟩ := DataW.trod_int ht h
  simp only [List.cons.injEq, and_true] at hm
  have hw2 : IntKind.i64.min ≤ m ∧ m ≤ IntKind.i64.max := by simpa [Lit.wf] using hw
  rw [show IntKind.i64.min = -9223372036854775808 from by decide, show IntKind.i64.max = 9223372036854775807 from by decide] at hw2
  exact ⟨m, hm, hw2⟩
theorem read_string {t : TypeId} {n : Nat} {v : Value} {x : DataW H × List MemPlace} (ht : P.underlying t = some .string) (h : DataW.trod enc P w base spare held n t [v] = some x) : ∃ s : ByteArray, v = .string s ∧ s.size ≤ maxLen := by
  obtain ⟨s, hs, _, hm⟩ := DataW.trod_string ht h
  simp only [List.cons.injEq, and_true] at hs
  exact ⟨s, hs, hm⟩
theorem read_bool {t : TypeId} {n : Nat} {v : Value} {x : DataW H × List MemPlace} (ht : P.underlying t = some .bool) (h : DataW.trod enc P w base spare held n t [v] = some x) : ∃ b : Bool, v = .bool b := by
  obtain ⟨b, hb, _⟩ := DataW.trod_bool ht h
  simp only [List.cons.injEq, and_true] at hb
  exact ⟨b, hb⟩

/-- A slice of rows, given how one row is read. -/
theorem arg_of {α : Type} (c : α → List Value) (G : α → Prop) {t e : TypeId} {fuel k : Nat} {v : Value} {x : DataW H × List MemPlace} (hk : 0 < k) (hck : ∀ y, (c y).length = k) (ht : P.underlying t = some (.slice e)) (hC : P.cellsOf e = k)
    (read : ∀ (n : Nat) (cs : List Value) (x : DataW H × List MemPlace), DataW.trod enc P w base spare held n e cs = some x → ∃ y, cs = c y ∧ G y)
    (h : DataW.trod enc P w base spare held fuel t [v] = some x) : ∃ l : List α, Rd w k v l.length (flat c l) ∧ ∀ x ∈ l, G x := by
  rcases open_slice ht h with ⟨hcs, _⟩ | ⟨a, len, cap, m, n, D, Pl, hcs, hb, hl, hm, hmm, hx, hi⟩
  · simp at hcs
    subst hcs
    exact ⟨[], Rd.nil w k, fun x hx => by cases hx⟩
  · simp at hcs
    subst hcs
    have hlm : len ≤ m := by rw [hmm]; split <;> omega
    have each : ∀ i, i < len → ∃ y : α, (∀ j u, (c y)[j]? = some u → w.cell? (a.add (i * k + j)) = some u) ∧ G y := by
      intro i hil
      obtain ⟨cs', hc, ht'⟩ := hi i (by omega)
      rw [hC] at hc
      obtain ⟨_, hcl, hat⟩ := World.cells?_some hc
      obtain ⟨y, hy, hd⟩ := read _ _ _ ht'
      refine ⟨y, fun j u hu => ?_, hd⟩
      have hadd : a.add (i * k + j) = (a.add (i * k)).add j := by rw [Go.Deep.add_add]
      have hjk : j < k := by
        rcases Nat.lt_or_ge j (c y).length with h | h
        · rw [hck] at h; omega
        · rw [List.getElem?_eq_none h] at hu; cases hu
      rw [hadd, hat j hjk, hy]
      exact hu
    have build : ∀ q, q ≤ len → ∃ l : List α, l.length = q ∧ (∀ j u, (flat c l)[j]? = some u → w.cell? (a.add j) = some u) ∧ ∀ x ∈ l, G x := by
      intro q
      induction q with
      | zero => intro _; exact ⟨[], rfl, fun j u hu => by simp [flat] at hu, fun x hx => by cases hx⟩
      | succ q ih =>
        intro hq
        obtain ⟨l, hll, hlc, hle⟩ := ih (by omega)
        obtain ⟨y, hy, hyd⟩ := each q (by omega)
        refine ⟨l ++ [y], by simp [hll], fun j u hu => ?_, fun x hx => ?_⟩
        · rw [flat_app, flat_one] at hu
          have hrl := flat_len hck l
          by_cases hj : j < (flat c l).length
          · rw [List.getElem?_append_left hj] at hu
            exact hlc j u hu
          · rw [List.getElem?_append_right (by omega)] at hu
            have := hy _ u hu
            rw [hrl, hll] at this
            rw [hrl, hll] at hj
            rwa [show q * k + (j - q * k) = j from by omega] at this
        · rcases List.mem_append.1 hx with hx | hx
          · exact hle x hx
          · simp at hx; rw [hx]; exact hyd
    obtain ⟨l, hll, hlc, hle⟩ := build len (Nat.le_refl _)
    subst hll
    exact ⟨l, rd_of_cells (flat_len hck l) hk hl hm hlc, hle⟩
end
end Go.Proofs.Ytpmindbipclphaa
namespace Go.Proofs.Ytpmindbipclphaa
open Go.ChangeShapes Go.WideShapes Go.ChangeAt Go.RowKit Go.Deep

/-- A byte slice and what it reads as. -/
def bpC (y : Value × List UInt8) : List Value := [y.1]
theorem bpC_len (y : Value × List UInt8) : (bpC y).length = 1 := rfl
def BpIn (w : World) (y : Value × List UInt8) : Prop := RdB w y.1 y.2
theorem flat_bp (l : List (Value × List UInt8)) : flat bpC l = l.map (·.1) := by
  induction l with
  | nil => rfl
  | cons x r ih => simp only [flat, List.flatMap_cons, bpC, List.map_cons] at ih ⊢; rw [ih]; rfl
theorem flat_bp_at (l : List (Value × List UInt8)) (i : Nat) (h : i < l.length) : (flat bpC l)[i]? = some l[i].1 := by rw [flat_bp]; simp [h]
section
variable {P : Program} {H : Type} {enc : TypeId × Value → H} {w : World} {base : Nat} {spare : Nat → Bool} {held : Bool}
theorem read_bp {t e : TypeId} {fuel : Nat} {cs : List Value} {x : DataW H × List MemPlace} (ht : P.underlying t = some (.slice e)) (he : P.underlying e = some (.int .u8)) (hc : P.cellsOf e = 1)
    (h : DataW.trod enc P w base spare held fuel t cs = some x) : ∃ y : Value × List UInt8, cs = bpC y ∧ BpIn w y := by
  have hf : ∃ v, cs = [v] := by
    rcases open_slice ht h with ⟨hcs, _⟩ | ⟨a, len, cap, m, n, D, Pl, hcs, _⟩
    · exact ⟨_, hcs⟩
    · exact ⟨_, hcs⟩
  obtain ⟨v, rfl⟩ := hf
  obtain ⟨d, hd⟩ := arg_bytes ht he hc h
  exact ⟨(v, d), rfl, hd⟩
end
end Go.Proofs.Ytpmindbipclphaa
set_option linter.unusedSimpArgs false
namespace Go.Proofs.Ytpmindbipclphaa
open Go.RowKit

/-- A slice of one byte slice, built where it stands. -/
theorem sum_one {w : World} {v : Value} {d : List UInt8} (h : RdB w v d) (hl : d.length ≤ 900000) : Calls Try.prog 38 #[.slice (some ⟨w.heap.size, 0, none⟩) 1 1] (w.alloc (.cells #[v] 35)) fun e w' => e = .returned (.agg (byts (shaN d)).toArray) ∧ Fr0 w w' := by
  have h1 := sum_any (w := w.alloc (.cells #[v] 35)) (lv := .slice (some ⟨w.heap.size, 0, none⟩) 1 1) (ds := [d]) (vs := [v])
    ⟨rfl, ⟨_, _, rfl, by simp, by unfold maxLen; simp, fun h => by cases h⟩, fun _ => ⟨w.heap.size, 0, 1, _, _, _, rfl, heap_alloc_new w _, fun j u hu => by simpa using hu⟩⟩
    (fun i hi => by
      simp at hi
      subst hi
      exact ⟨v, rfl, h.fr0 ((Fr0.refl w).alloc _)⟩) (by simpa using hl)
  refine h1.mono ?_
  rintro e w' ⟨rfl, hf⟩
  exact ⟨by simp, Fr0.trans ((Fr0.refl w).alloc _) hf⟩
set_option maxHeartbeats 2000000 in
set_option maxRecDepth 10000 in
theorem mblock_any {v : Value} {key : List UInt8} {w : World} (x : UInt8) (h : RdB w v key) (hl : key.length ≤ 900000) :
    Calls Try.prog 36 #[v, .int .u8 (x.toNat : Int)] w fun e w' => ∃ g, e = .returned (.slice (some ⟨g, 0, none⟩) 64 64) ∧ Blk w' g (byts (blockN key x)).toArray 97 ∧ w.heap.size ≤ g ∧ Fr0 w w' := by
  obtain ⟨Av, cv, rfl, -, -, -⟩ := h.form
  obtain ⟨z64, hz64⟩ : ∃ z, z = (byts (List.replicate 64 0)).toArray := ⟨_, rfl⟩
  have hrun64 : ∀ W : World, (Instr.alloc 97 true (.tuple #[])).run Try.prog W = .ok (.pointer (some ⟨W.heap.size, 0, none⟩)) (W.alloc (.cells z64 97)) := by rw [hz64]; exact fun _ => by kernel_rfl
  have HRUN64 := Lib.hid hrun64
  have HZ := Lib.hid hz64
  have hxb : (x.toNat : Int) < 256 := by have := x.toNat_lt; omega
  have HKE := Lib.hid (show RdB w (.slice Av key.length cv) key from h)
  obtain ⟨nk, hnk⟩ : ∃ n, n = key.length := ⟨_, rfl⟩
  rw [← hnk] at hl ⊢
  by_cases hg : nk ≤ 64
  · have HKN := Lib.hid (show keyN key = key from keyN_small (by omega))
    have HR := Lib.hid (show RdB w (.slice Av nk cv) (keyN key) from by rw [HKN.out, hnk]; exact h)
    clear hz64 hrun64 hnk h HKN
    go_enter Try.func36, Try.ntmps36
    go_upto_region 5 with (refine list_alloc_blk rfl 97 rfl z64 HRUN64.out ?_; intro g5 w1 hB hF hl5; have B5 := Lib.hid hB; have F5 := Lib.hid hF; have L5 := Lib.hid hl5; have RK := Lib.hid ((HR.out).fr0 hF); clear hB hF hl5)
    have hgl := L5.out
    have KN := Lib.hid (keyN_le key)
    have PK := Lib.hid (padK_len key)
    have BK := Lib.hid (blockN_len key x)
    have HAT := Lib.hid (fun i (h : i < 64) => blockN_at key x i h)
    have HPZ := Lib.hid (show putAt (byts (List.replicate 64 0)).toArray 0 (byts ((keyN key).take 64)) = (byts (padK key)).toArray from by
      rw [List.take_of_length_le (keyN_le key), putAt_zeros (keyN_le key)]; unfold padK; first | done | rfl)
    obtain ⟨kn, hkn⟩ : ∃ k, k = keyN key := ⟨_, rfl⟩
    rw [← hkn] at RK KN HPZ
    obtain ⟨pl, hpl⟩ : ∃ p, p = padK key := ⟨_, rfl⟩
    rw [← hpl] at PK HPZ HAT
    obtain ⟨bl, hbl⟩ : ∃ b, b = blockN key x := ⟨_, rfl⟩
    rw [← hbl] at BK HAT
    have HBL := Lib.hid hbl
    obtain ⟨pc, hpc⟩ : ∃ p, p = putAt z64 0 (byts (kn.take 64)) := ⟨_, rfl⟩
    have HPC := Lib.hid (show pc = (byts pl).toArray from hpc.trans (by rw [HZ.out]; exact HPZ.out))
    have hkl : (kn.take 64).length ≤ 64 := by rw [List.length_take]; omega
    have hzs : z64.size = 64 := by rw [HZ.out]; rfl
    have HZS := Lib.hid hzs
    have HKL := Lib.hid hkl
    obtain ⟨cn, hcn⟩ : ∃ c : Int, c = ((kn.take 64).length : Int) := ⟨_, rfl⟩
    have HPCC := Lib.hid hpc
    have HCN := Lib.hid hcn
    clear hkn hpl hbl hpc hkl hzs hcn
    go_wp2_with (refine list_copy_rd rfl _ _ 35 35 rfl 5 Try.underlying35 (by kernel_rfl) rfl rfl (RK.out) B5.out (by rw [HZS.out]; have := HKL.out; omega) ?_; intro w6 hB hF; rw [← HPCC.out] at hB; have B6 := Lib.hid hB; have F6 := Lib.hid (Fr0.new F5.out hF hgl); rw [show goInt ((kn.take 64).length : Int) = .int .i64 cn from by rw [HCN.out]; rfl]; clear hB hF)
    go_loopw [18] (fun v18 wr => ∃ i : Nat, i ≤ 64 ∧ v18 = .int .i64 i ∧ Blk wr g5 (byts (bl.take i ++ pl.drop i)).toArray 97 ∧ Fr0 w wr) (fun v18 _ => 64 - (intOf v18).toNat)
    case atStart => exact ⟨0, by omega, rfl, by have h := B6.out; rw [HPC.out] at h; exact h, F6.out⟩
    case round =>
      obtain ⟨i, hi, rfl, hB, hF⟩ := hrel
      by_cases hlt : i < 64
      · have i0 : (0 : Int) ≤ (i : Int) := by omega
        have i1 : (i : Int) < 64 := by omega
        have d0 := hB.cell i (take_set_xor PK.out BK.out hlt)
        have f0 := hB.free i
        have hx := xor_u8 (pl.getD i 0) x
        rw [← (HAT.out) i hlt] at hx
        have HN := Lib.hid (show Blk (wr.setCell ⟨g5, i, none⟩ (.int .u8 ((bl.getD i 0).toNat : Int))) g5 (byts (bl.take (i + 1) ++ pl.drop (i + 1))).toArray 97 from by
          have h := hB.set i (.int .u8 ((bl.getD i 0).toNat : Int))
          rw [bhalf_set BK.out PK.out hlt] at h
          exact h)
        obtain ⟨pi, hpi⟩ : ∃ p, p = pl.getD i 0 := ⟨_, rfl⟩
        obtain ⟨bi, hbi⟩ : ∃ p, p = bl.getD i 0 := ⟨_, rfl⟩
        rw [← hpi] at d0 hx
        rw [← hbi] at hx HN
        have HF := Lib.hid hF
        clear hpi hbi hB hF
        go_wp2_with fail
        go_roundw
        case measure => simp [intOf]; omega
        case rel => exact ⟨i + 1, by omega, by go_num, HN.out, Fr.setCell (p := ⟨g5, i, none⟩) HF.out (.inr hgl) _⟩
      · obtain rfl : i = 64 := by omega
        have e : bl.take 64 ++ pl.drop 64 = bl := by rw [List.take_of_length_le (by rw [BK.out]; omega), List.drop_of_length_le (by rw [PK.out]; omega), List.append_nil]
        rw [e, HBL.out] at hB
        clear e
        go_wp2_with fail
        go_ret
        exact ⟨g5, rfl, hB, hgl, hF⟩

  · have HKN := Lib.hid (show keyN key = shaN key from keyN_great (by omega))
    have hgt : (64 : Int) < (nk : Int) := by omega
    have HSU := Lib.hid (fun (W : World) (hf : Fr0 w W) => show Calls Try.prog 38 #[.slice (some ⟨W.heap.size, 0, none⟩) 1 1] (W.alloc (.cells #[.slice Av nk cv] 35)) (fun e w' => e = .returned (.agg (byts (keyN key)).toArray) ∧ Fr0 W w') from by
      rw [HKN.out, hnk]
      exact sum_one (h.fr0 hf) (by omega))
    have h32 : (keyN key).length = 32 := by rw [HKN.out]; exact sha_len key
    have hi32 := dig_info h32
    have ho32 := z32_size h32
    have ha32 := byts_all (keyN key)
    have HRUN32 := Lib.hid (fun W => z32_run W)
    obtain ⟨z32, hz32⟩ : ∃ z, z = z32A := ⟨_, rfl⟩
    rw [← hz32] at HRUN32 ho32
    obtain ⟨s0, hs0⟩ : ∃ s, s = (byts (keyN key)).toArray := ⟨_, rfl⟩
    rw [← hs0] at HSU hi32 ho32 ha32
    have HS0 := Lib.hid hs0
    have HI := Lib.hid hi32
    have HO := Lib.hid ho32
    have H32 := Lib.hid h32
    clear hz64 hrun64 hnk h HKN hz32 hs0 hi32 ho32 h32
    go_enter Try.func36, Try.ntmps36
    go_upto_region 5 with (first
      | (refine list_alloc_blk rfl 97 rfl z64 HRUN64.out ?_; intro g5 w1 hB hF hl5; have B1 := Lib.hid hB; have F1 := Lib.hid hF; have L5 := Lib.hid hl5; clear hB hF hl5)
      | (go_at_call 38; refine (HSU.out _ F1.out).mono ?_; rintro e w2 ⟨rfl, hf⟩; have B2 := Lib.hid ((B1.out).fr0 hf); have F2 := Lib.hid (Fr0.trans F1.out hf); clear hf)
      | (refine list_alloc_blk rfl 32 rfl z32 HRUN32.out ?_; intro g6 w3 hB hF hl6; have C3 := Lib.hid hB; have B3 := Lib.hid ((B2.out).fr0 hF); have F3 := Lib.hid (Fr0.trans F2.out hF); have L6 := Lib.hid hl6; clear hB hF hl6)
      | (refine list_store_blk rfl 32 _ _ rfl g6 s0 rfl rfl 32 z32 C3.out HI.out HO.out ha32 ?_; intro w4 hB hF; have C4 := Lib.hid hB; have B5 := Lib.hid ((B3.out).fr1 hF (fun e => by have := (B2.out).lt; have := L6.out; omega)); have F5 := Lib.hid (Fr0.new F3.out hF (by have := (F2.out).size; have := L6.out; omega)); clear hB hF))
    have RK := Lib.hid (show RdB w4 (.slice (some ⟨g6, 0, none⟩) 32 32) (keyN key) from by
      have hb := C4.out
      rw [HS0.out] at hb
      have h := arr_rd hb (o := 0) (k := 32) (c := 32) (by rw [H32.out]; decide) (Nat.le_refl _) (by unfold maxLen; decide)
      rw [List.drop_zero, List.take_of_length_le (Nat.le_of_eq H32.out)] at h
      exact h)
    have hgl := L5.out
    have KN := Lib.hid (keyN_le key)
    have PK := Lib.hid (padK_len key)
    have BK := Lib.hid (blockN_len key x)
    have HAT := Lib.hid (fun i (h : i < 64) => blockN_at key x i h)
    have HPZ := Lib.hid (show putAt (byts (List.replicate 64 0)).toArray 0 (byts ((keyN key).take 64)) = (byts (padK key)).toArray from by
      rw [List.take_of_length_le (keyN_le key), putAt_zeros (keyN_le key)]; unfold padK; first | done | rfl)
    obtain ⟨kn, hkn⟩ : ∃ k, k = keyN key := ⟨_, rfl⟩
    rw [← hkn] at RK KN HPZ
    obtain ⟨pl, hpl⟩ : ∃ p, p = padK key := ⟨_, rfl⟩
    rw [← hpl] at PK HPZ HAT
    obtain ⟨bl, hbl⟩ : ∃ b, b = blockN key x := ⟨_, rfl⟩
    rw [← hbl] at BK HAT
    have HBL := Lib.hid hbl
    obtain ⟨pc, hpc⟩ : ∃ p, p = putAt z64 0 (byts (kn.take 64)) := ⟨_, rfl⟩
    have HPC := Lib.hid (show pc = (byts pl).toArray from hpc.trans (by rw [HZ.out]; exact HPZ.out))
    have hkl : (kn.take 64).length ≤ 64 := by rw [List.length_take]; omega
    have hzs : z64.size = 64 := by rw [HZ.out]; rfl
    have HZS := Lib.hid hzs
    have HKL := Lib.hid hkl
    obtain ⟨cn, hcn⟩ : ∃ c : Int, c = ((kn.take 64).length : Int) := ⟨_, rfl⟩
    have HPCC := Lib.hid hpc
    have HCN := Lib.hid hcn
    clear hkn hpl hbl hpc hkl hzs hcn
    go_wp2_with (refine list_copy_rd rfl _ _ 35 35 rfl 5 Try.underlying35 (by kernel_rfl) rfl rfl (RK.out) B5.out (by rw [HZS.out]; have := HKL.out; omega) ?_; intro w6 hB hF; rw [← HPCC.out] at hB; have B6 := Lib.hid hB; have F6 := Lib.hid (Fr0.new F5.out hF hgl); rw [show goInt ((kn.take 64).length : Int) = .int .i64 cn from by rw [HCN.out]; rfl]; clear hB hF)
    go_loopw [18] (fun v18 wr => ∃ i : Nat, i ≤ 64 ∧ v18 = .int .i64 i ∧ Blk wr g5 (byts (bl.take i ++ pl.drop i)).toArray 97 ∧ Fr0 w wr) (fun v18 _ => 64 - (intOf v18).toNat)
    case atStart => exact ⟨0, by omega, rfl, by have h := B6.out; rw [HPC.out] at h; exact h, F6.out⟩
    case round =>
      obtain ⟨i, hi, rfl, hB, hF⟩ := hrel
      by_cases hlt : i < 64
      · have i0 : (0 : Int) ≤ (i : Int) := by omega
        have i1 : (i : Int) < 64 := by omega
        have d0 := hB.cell i (take_set_xor PK.out BK.out hlt)
        have f0 := hB.free i
        have hx := xor_u8 (pl.getD i 0) x
        rw [← (HAT.out) i hlt] at hx
        have HN := Lib.hid (show Blk (wr.setCell ⟨g5, i, none⟩ (.int .u8 ((bl.getD i 0).toNat : Int))) g5 (byts (bl.take (i + 1) ++ pl.drop (i + 1))).toArray 97 from by
          have h := hB.set i (.int .u8 ((bl.getD i 0).toNat : Int))
          rw [bhalf_set BK.out PK.out hlt] at h
          exact h)
        obtain ⟨pi, hpi⟩ : ∃ p, p = pl.getD i 0 := ⟨_, rfl⟩
        obtain ⟨bi, hbi⟩ : ∃ p, p = bl.getD i 0 := ⟨_, rfl⟩
        rw [← hpi] at d0 hx
        rw [← hbi] at hx HN
        have HF := Lib.hid hF
        clear hpi hbi hB hF
        go_wp2_with fail
        go_roundw
        case measure => simp [intOf]; omega
        case rel => exact ⟨i + 1, by omega, by go_num, HN.out, Fr.setCell (p := ⟨g5, i, none⟩) HF.out (.inr hgl) _⟩
      · obtain rfl : i = 64 := by omega
        have e : bl.take 64 ++ pl.drop 64 = bl := by rw [List.take_of_length_le (by rw [BK.out]; omega), List.drop_of_length_le (by rw [PK.out]; omega), List.append_nil]
        rw [e, HBL.out] at hB
        clear e
        go_wp2_with fail
        go_ret
        exact ⟨g5, rfl, hB, hgl, hF⟩
end Go.Proofs.Ytpmindbipclphaa
set_option linter.unusedSimpArgs false
namespace Go.Proofs.Ytpmindbipclphaa
open Go.RowKit

/-- Two byte slices, built where they stand. -/
theorem sum_two {w : World} {v1 v2 : Value} {d1 d2 : List UInt8} (h1 : RdB w v1 d1) (h2 : RdB w v2 d2) (hl : d1.length + d2.length ≤ 900000) : Calls Try.prog 38 #[.slice (some ⟨w.heap.size, 0, none⟩) 2 2] (w.alloc (.cells #[v1, v2] 35)) fun e w' => e = .returned (.agg (byts (shaN (d1 ++ d2))).toArray) ∧ Fr0 w w' := by
  have h := sum_any (w := w.alloc (.cells #[v1, v2] 35)) (lv := .slice (some ⟨w.heap.size, 0, none⟩) 2 2) (ds := [d1, d2]) (vs := [v1, v2])
    ⟨rfl, ⟨_, _, rfl, by simp, by unfold maxLen; simp, fun h => by cases h⟩, fun _ => ⟨w.heap.size, 0, 2, _, _, _, rfl, heap_alloc_new w _, fun j u hu => by simpa using hu⟩⟩
    (fun i hi => by
      simp at hi
      rcases (by omega : i = 0 ∨ i = 1) with rfl | rfl
      · exact ⟨v1, rfl, h1.fr0 ((Fr0.refl w).alloc _)⟩
      · exact ⟨v2, rfl, h2.fr0 ((Fr0.refl w).alloc _)⟩) (by simpa using hl)
  refine h.mono ?_
  rintro e w' ⟨rfl, hf⟩
  exact ⟨by simp, Fr0.trans ((Fr0.refl w).alloc _) hf⟩
set_option maxHeartbeats 4000000 in
set_option maxRecDepth 10000 in
theorem mof_any {kv lv : Value} {key : List UInt8} {ds : List (List UInt8)} {vs : List Value} {w : World} (hk : RdB w kv key) (hkl : key.length ≤ 900000) (hr : Rd w 1 lv ds.length vs) (hd : ∀ i (h : i < ds.length), ∃ v, vs[i]? = some v ∧ RdB w v ds[i]) (hl : ds.flatten.length ≤ 800000) :
    Calls Try.prog 23 #[kv, lv] w fun e w' => e = .returned (.agg (byts (macN key ds.flatten)).toArray) ∧ Fr0 w w' := by
  have l63 := hr.le63
  obtain ⟨Ak, ck, rfl, -, -, -⟩ := hk.form
  obtain ⟨Av, cv, rfl, -, -, -⟩ := hr.form
  have HR := Lib.hid hr
  have HD := Lib.hid hd
  have HN := Lib.hid (fun W => hnew_any W)
  have HB54 := Lib.hid (fun (W : World) (hf : Fr0 w W) => show Calls Try.prog 36 #[.slice Ak key.length ck, .int .u8 54] W (fun e w' => ∃ g, e = .returned (.slice (some ⟨g, 0, none⟩) 64 64) ∧ Blk w' g (byts (blockN key 54)).toArray 97 ∧ W.heap.size ≤ g ∧ Fr0 W w') from mblock_any 54 (hk.fr0 hf) hkl)
  have HB92 := Lib.hid (fun (W : World) (hf : Fr0 w W) => show Calls Try.prog 36 #[.slice Ak key.length ck, .int .u8 92] W (fun e w' => ∃ g, e = .returned (.slice (some ⟨g, 0, none⟩) 64 64) ∧ Blk w' g (byts (blockN key 92)).toArray 97 ∧ W.heap.size ≤ g ∧ Fr0 W w') from mblock_any 92 (hk.fr0 hf) hkl)
  have HRUN := Lib.hid (fun W => z32_run W)
  have b54 := blockN_len key 54
  have b92 := blockN_len key 92
  have HMO := Lib.hid (show macN key ds.flatten = shaN (blockN key 92 ++ shaN (blockN key 54 ++ ds.flatten)) from rfl)
  have ho2 := z32_size (macN_len key ds.flatten)
  have hi2 := dig_info (macN_len key ds.flatten)
  have ha2 := byts_all (macN key ds.flatten)
  obtain ⟨ino, hin⟩ : ∃ i, i = shaN (blockN key 54 ++ ds.flatten) := ⟨_, rfl⟩
  have hil : ino.length = 32 := by rw [hin]; exact shaN_len _
  rw [← hin] at HMO
  have HIN := Lib.hid hin
  have ho1 := z32_size hil
  have hi1 := dig_info hil
  have ha1 := byts_all ino
  have HSU := Lib.hid (fun (W : World) (g6 g8 : Nat) (hf : Fr0 w W) (h6 : Blk W g6 (byts (blockN key 92)).toArray 97) (h8 : Blk W g8 (byts ino).toArray 32) => show Calls Try.prog 38 #[.slice (some ⟨W.heap.size, 0, none⟩) 2 2] (W.alloc (.cells #[.slice (some ⟨g6, 0, none⟩) 64 64, .slice (some ⟨g8, 0, none⟩) 32 32] 35)) (fun e w' => e = .returned (.agg (byts (macN key ds.flatten)).toArray) ∧ Fr0 W w') from by
    rw [HMO.out]
    exact sum_two (rd64 h6 b92 (by decide)) (rd64 h8 hil (by decide)) (by omega))
  obtain ⟨so, hso⟩ : ∃ s, s = (byts (macN key ds.flatten)).toArray := ⟨_, rfl⟩
  obtain ⟨si, hsi⟩ : ∃ s, s = (byts ino).toArray := ⟨_, rfl⟩
  obtain ⟨z32, hz32⟩ : ∃ z, z = z32A := ⟨_, rfl⟩
  obtain ⟨s92, hs92⟩ : ∃ s, s = (byts (blockN key 92)).toArray := ⟨_, rfl⟩
  obtain ⟨s54, hs54⟩ : ∃ s, s = blockN key 54 := ⟨_, rfl⟩
  rw [← hso] at HSU ho2 hi2 ha2
  rw [← hsi] at HSU ho1 hi1 ha1
  rw [← hz32] at HRUN ho1 ho2
  rw [← hs92] at HSU HB92
  rw [← hs54] at HB54 HIN b54
  have HIO := Lib.hid hi2
  have HOO := Lib.hid ho2
  have HII := Lib.hid hi1
  have HOI := Lib.hid ho1
  have HSO := Lib.hid hso
  have HSI := Lib.hid hsi
  have H54 := Lib.hid b54
  obtain ⟨nk, hnk⟩ : ∃ n, n = key.length := ⟨_, rfl⟩
  obtain ⟨nd, hnd⟩ : ∃ n, n = ds.length := ⟨_, rfl⟩
  rw [← hnk] at HB54 HB92 ⊢
  rw [← hnd] at l63 ⊢
  have HND := Lib.hid hnd
  have HL := Lib.hid hl
  clear hk hkl hr hd b54 b92 ho2 hi2 hin hil ho1 hi1 hso hsi hz32 hs92 hs54 hnk hnd hl
  go_enter Try.func23, Try.ntmps23
  go_wp2_with (first
    | (refine list_alloc_blk rfl 32 rfl z32 HRUN.out ?_; intro g4 w0 hB hF hl4; have B0 := Lib.hid hB; have F0 := Lib.hid hF; have L4 := Lib.hid hl4; clear hB hF hl4)
    | (go_at_call 34; refine (HN.out _).mono ?_; rintro e w1 ⟨p, rfl, hv, hf⟩; have H1 := Lib.hid hv; have B1 := Lib.hid ((B0.out).fr0 hf); have F1 := Lib.hid (Fr0.trans F0.out hf); have S1 := Lib.hid hf.size; clear hv hf)
    | (go_at_call 36; refine (HB54.out _ F1.out).mono ?_; rintro e w2 ⟨gb, rfl, hB, hgb, hf⟩; have C2 := Lib.hid hB; have B2 := Lib.hid ((B1.out).fr0 hf); have H2 := Lib.hid (HashV.fr0 H1.out hf); have F2 := Lib.hid (Fr0.trans F1.out hf); have S2 := Lib.hid (Nat.le_trans S1.out hf.size); have LB := Lib.hid hgb; clear hB hf hgb)
    | (go_at_call 35; refine (hwrite_any H2.out (rd64 C2.out H54.out (by decide)) (fun _ hq => by injection hq with hq; have h1 := (H1.out).blk.lt; have h2 := LB.out; have hq : gb = p := hq; omega) S2.out (by rw [H54.out]; decide)).mono ?_; rintro e w3 ⟨rfl, v3, hv, hf, -⟩; have H3 := Lib.hid hv; have F3 := Lib.hid (show Fr0 w w3 from Fr.then F2.out hf (fun q hq hl => by have h1 := (HashR.own_lo H1.out q hq).1; have h2 := (F0.out).size; omega)); have B3 := Lib.hid ((B2.out).fr hf (fun hq => by have h1 := (HashR.own_lo H1.out _ hq).1; have h2 := (B0.out).lt; omega)); have S3 := Lib.hid (Nat.le_trans S2.out hf.size); clear hv hf))
  have hg4 := (B0.out).lt
  have hl4 := L4.out
  have hs0 := (F0.out).size
  obtain ⟨b0, hb0⟩ : ∃ b, b = w0.heap.size := ⟨_, rfl⟩
  rw [← hb0] at H3 S3 hg4 hs0
  have hlo := (H3.out).lo
  clear hb0 H1 S1 H2 S2
  go_loopw [16] (fun v16 wr => ∃ (k : Nat) (v : Value), k ≤ nd ∧ v16 = .int .i64 k ∧ HashV b0 wr p v (s54 ++ (ds.take k).flatten) ∧ Blk wr g4 z32 32 ∧ Fr0 w wr ∧ b0 ≤ wr.heap.size) (fun v16 _ => nd - (intOf v16).toNat)
  case atStart => exact ⟨0, _, Nat.zero_le _, rfl, by have h := H3.out; simp only [List.nil_append] at h; rw [List.take_zero, List.flatten_nil, List.append_nil]; exact h, B3.out, F3.out, S3.out⟩
  case round =>
    obtain ⟨k, v, hk, rfl, hH, hK, hF, hS⟩ := hrel
    have HH := Lib.hid hH
    have HK := Lib.hid hK
    have HF := Lib.hid hF
    have HS := Lib.hid hS
    by_cases hlt : k < nd
    · have hkd : k < ds.length := by rw [← HND.out]; exact hlt
      obtain ⟨ev, he, hrb⟩ := (HD.out) k hkd
      obtain ⟨g, off, hA, hkc, hgl, hcells⟩ := ((HR.out).fr0 hF).cellA hkd
      subst hA
      have dk := hcells 0 ev (by simpa using he)
      simp only [Nat.mul_one, Nat.add_zero] at dk
      obtain ⟨Ae, ce, rfl, -, -, -⟩ := hrb.form
      have i0 : (0 : Int) ≤ (k : Int) := by omega
      have i1 : (k : Int) < (nd : Int) := by omega
      have hfl : (ds.take (k + 1)).flatten = (ds.take k).flatten ++ ds[k] := by rw [List.take_succ_eq_append_getElem hkd, List.flatten_append]; simp
      obtain ⟨de, hde⟩ : ∃ d, d = ds[k] := ⟨_, rfl⟩
      rw [← hde] at hfl dk hrb he
      clear hde
      have hle : (s54 ++ (ds.take k).flatten).length + de.length ≤ 1000000 := by
        have h1 : (ds.take (k + 1)).flatten.length ≤ ds.flatten.length := by
          have h2 := congrArg (fun l => l.flatten.length) (List.take_append_drop (k + 1) ds)
          simp only [List.flatten_append, List.length_append] at h2
          omega
        rw [hfl, List.length_append] at h1
        have := HL.out
        rw [List.length_append, H54.out]
        omega
      have HWr := Lib.hid (hwrite_any hH (hrb.fr0 hF) (fun h0 hp => by have h1 := Rd.blk_lt hrb h0 _ hp; omega) hS hle)
      have HFL := Lib.hid hfl
      obtain ⟨el, hel⟩ : ∃ n, n = de.length := ⟨_, rfl⟩
      rw [← hel] at dk HWr
      clear he hrb hkc hgl hcells hkd hH hK hF hS hfl hle hel
      go_wp2_with (go_at_call 35; refine (HWr.out).mono ?_; rintro e w3 ⟨rfl, v3, hv, hf, -⟩; have H3 := Lib.hid hv; have F3 := Lib.hid (show Fr0 w w3 from Fr.then HF.out hf (fun q hq hl => by have := (HashR.own_lo HH.out q hq).1; omega)); have K3 := Lib.hid ((HK.out).fr hf (fun hq => by have := (HashR.own_lo HH.out _ hq).1; omega)); have S3 := Lib.hid (Nat.le_trans HS.out hf.size); clear hv hf)
      go_roundw
      case measure => simp [intOf]; omega
      case rel => exact ⟨k + 1, v3, by omega, by go_num, by have h := H3.out; rw [List.append_assoc, ← HFL.out] at h; exact h, K3.out, F3.out, S3.out⟩
    · obtain rfl : k = nd := by omega
      have e : ds.take k = ds := List.take_of_length_le (by rw [← HND.out]; omega)
      rw [e] at hH
      have HSm := Lib.hid (show Calls Try.prog 37 #[.pointer (some ⟨p, 0, none⟩)] wr (fun e w' => e = .returned (.agg si) ∧ Fr0 wr w') from by
        rw [HSI.out, HIN.out]
        exact hsum_any hH (by have := HL.out; rw [List.length_append, H54.out]; omega))
      clear e hH hK hF hS hlt hk
      go_upto_region 9 with (first
        | (go_at_call 37; refine (HSm.out).mono ?_; rintro e w4 ⟨rfl, hf⟩; have F4 := Lib.hid (Fr0.trans HF.out hf); have B4 := Lib.hid ((HK.out).fr0 hf); have S4 := Lib.hid hf.size; clear hf)
        | (refine list_alloc_blk rfl 32 rfl z32 HRUN.out ?_; intro g8 w5 hB hF hl8; have C5 := Lib.hid hB; have B5 := Lib.hid ((B4.out).fr0 hF); have F5 := Lib.hid (Fr0.trans F4.out hF); have L8 := Lib.hid hl8; clear hB hF hl8)
        | (refine list_store_blk rfl 32 _ _ rfl g8 si rfl rfl 32 z32 C5.out HII.out HOI.out ha1 ?_; intro w5b hB hF; have V8 := Lib.hid (Blk.drew hB); have V4 := Lib.hid (Blk.drew ((B5.out).fr1 hF (fun e => by have := (B4.out).lt; have := L8.out; omega))); have UF := Lib.hid (Fr0.drew (Fr0.new F5.out hF (by have := (F4.out).size; have := L8.out; omega))); clear hB hF))
      simp only [Act.put]
      refine wp_region_held_drew (S := (fun _ => True)) (by kernel_rfl) trivial (fun hHeld => ?_)
      have _hI : True := trivial
      clear _hI
      refine takeH (i := 0) rfl (by kernel_rfl) (by kernel_rfl) (by kernel_rfl) (fun _ _ _ h => h) (yields_move rfl _ rfl) trivial ?_
      try simp only [Act.put, List.setIfInBounds_toArray, List.set_cons_zero, List.set_cons_succ]
      have _hI : True := trivial
      clear _hI
      refine takeH (i := 2) rfl (by kernel_rfl) (by kernel_rfl) (by kernel_rfl) (fun _ _ _ h => h) (v := .slice (some ⟨g8, 0, none⟩) 32 32) (.inl ⟨rfl, fun W _ => (by go_simp; try rfl)⟩) trivial ?_
      try simp only [Act.put, List.setIfInBounds_toArray, List.set_cons_zero, List.set_cons_succ]
      have _hI : True := trivial
      clear _hI
      refine wpAnyH_ready (rs := [1]) (by kernel_rfl) (by simp) (consH rfl rfl (fun K hK => ?_) AllReadyH.nil)
      have _hI : True := trivial
      clear _hI
      go_simp
      refine (HB92.out _ UF.out).mono ?_
      rintro e w6 ⟨g6, rfl, hB, hg6, hf⟩
      have C6 := Lib.hid hB
      have U8 := Lib.hid ((V8.out).fr0 hf)
      have U4 := Lib.hid ((V4.out).fr0 hf)
      have F6 := Lib.hid (Fr0.trans UF.out hf)
      clear hB hf
      refine hK.out _ _ trivial ?_
      clear hK
      try simp only [Act.put, List.setIfInBounds_toArray, List.set_cons_zero, List.set_cons_succ]
      have _hI : True := trivial
      clear _hI
      refine wpAnyH_ready (rs := [3]) (by kernel_rfl) (by simp) (consH rfl rfl (fun K hK => ?_) AllReadyH.nil)
      have _hI : True := trivial
      clear _hI
      go_simp
      refine hK.out _ _ trivial ?_
      clear hK
      try simp only [Act.put, List.setIfInBounds_toArray, List.set_cons_zero, List.set_cons_succ]
      have _hI : True := trivial
      clear _hI
      refine wpAnyH_ready (rs := [4]) (by kernel_rfl) (by simp) (consH rfl rfl (fun K hK => ?_) AllReadyH.nil)
      have _hI : True := trivial
      clear _hI
      go_simp
      refine (HSU.out _ _ _ F6.out C6.out U8.out).mono ?_
      rintro e w7 ⟨rfl, hf⟩
      have X4 := Lib.hid ((U4.out).fr0 hf)
      have F7 := Lib.hid (Fr0.trans F6.out hf)
      clear hf
      refine hK.out _ _ trivial ?_
      clear hK
      try simp only [Act.put, List.setIfInBounds_toArray, List.set_cons_zero, List.set_cons_succ]
      have _hI : True := trivial
      clear _hI
      refine wpAnyH_ready (rs := [5]) (by kernel_rfl) (by simp) (consH rfl rfl (fun K hK => ?_) AllReadyH.nil)
      have _hI : True := trivial
      clear _hI
      refine wp_store_blk ?qty1 ?qex1 ?qey1 ?qho1 ?qgg1 ?qcc1 ?qhx1 ?qhy1 ?qtt1 ?qold1 ?qhb1 ?qhi1 ?qhd1 ?qh11 ?qre1
      case qcc1 => exact so
      case qty1 => exact 32
      case qtt1 => exact 32
      case qgg1 => exact g4
      case qold1 => exact z32
      case qex1 => exact (.tmp 4)
      case qey1 => exact (.tmp 30)
      case qho1 => rfl
      case qhb1 => exact X4.out
      case qhi1 => exact HIO.out
      case qhd1 => exact HOO.out
      case qh11 => exact ha2
      case qhx1 => rfl
      case qhy1 => rfl
      intro V hB hf
      have VB := Lib.hid hB
      have VF := Lib.hid (Fr0.new F7.out hf hl4)
      clear hf hB
      refine hK.out _ _ trivial ?_
      clear hK
      try simp only [Act.put, List.setIfInBounds_toArray, List.set_cons_zero, List.set_cons_succ]
      refine wpAnyH_done (by kernel_rfl) ?_ _
      have VBO := VB.out
      go_wp2_with fail
      refine bodyPost_ret (v := .agg so) (results_cell_row rfl _ _ g4 32 so (0, 0) _ rfl VBO Try.underlying32 rfl HIO.out) rfl ⟨by rw [HSO.out], VF.out⟩
end Go.Proofs.Ytpmindbipclphaa
set_option linter.unusedSimpArgs false
set_option linter.unusedVariables false
namespace Go.Proofs.Ytpmindbipclphaa
open Go.RowKit

/-- A mark of one text, its slice built before. -/
theorem mof_one {W : World} {g : Nat} {kv tv : Value} {key text : List UInt8} (hk : RdB W kv key) (hkl : key.length ≤ 900000) (ht : RdB W tv text) (htl : text.length ≤ 800000) (hb : Blk W g #[tv] 35) :
    Calls Try.prog 23 #[kv, .slice (some ⟨g, 0, none⟩) 1 1] W fun e w' => e = .returned (.agg (byts (macN key text)).toArray) ∧ Fr0 W w' := by
  have h := mof_any (w := W) (kv := kv) (key := key) (lv := .slice (some ⟨g, 0, none⟩) 1 1) (ds := [text]) (vs := [tv]) hk hkl
    ⟨rfl, ⟨_, _, rfl, by simp, by unfold maxLen; simp, fun h => by cases h⟩, fun _ => ⟨g, 0, 1, _, _, _, rfl, hb, fun j u hu => by simpa using hu⟩⟩
    (fun i hi => by
      simp at hi
      subst hi
      exact ⟨tv, rfl, ht⟩)
  have h2 := h (by simpa using htl)
  rw [show ([text] : List (List UInt8)).flatten = text from by simp] at h2
  exact h2
theorem yields_load_part {P : Program} {ops : Array Oper} {o : Oper} {a : Act} {S : World → Prop} (hgd : o.guard = none) (ty : TypeId) (x : Operand) (ho : o.op = .load ty x) (g off : Nat) (hx : a.eval x = .pointer (some ⟨g, off, none⟩)) (t : TypeId) (l : List UInt8) (n : Nat) (hS : ∀ w, S w → Blk w g (byts l).toArray t) (d : TypeDesc)
    (hu : P.underlying ty = some d) (hd : d.isRow = true) (hi : (P.info? ty).map (·.size) = some (byts ((l.drop off).take n)).length) : YieldsIf P ops S o (.agg (byts ((l.drop off).take n)).toArray) a :=
  yieldsIf_load_mid (P := P) (ops := ops) (S := S) (a := a) (op := o) (by simp [Region.wanted, hgd]) ty x ho g off hx (byts ((l.drop off).take n)) d (fun w hw j v hv => (hS w hw).range off n j v hv) hu hd hi
theorem rd64b {w : World} {g : Nat} {d : List UInt8} {t : TypeId} (h : Blk w g (byts d).toArray t) {n : Nat} (hn : d.length = n) (hm : n ≤ 100000) : RdB w (.slice (some ⟨g, 0, none⟩) n n) d := by
  have h1 := arr_rd h (o := 0) (k := n) (c := n) (by omega) (Nat.le_refl _) (by unfold maxLen; omega)
  rw [List.drop_zero, List.take_of_length_le (Nat.le_of_eq hn)] at h1
  exact h1
theorem key_mark {w : World} {g : Nat} {t : TypeId} {code mark : List UInt8} (hc : code.length = 16) (hm : mark.length = 32) (h : Blk w g (byts (code ++ mark)).toArray t) : RdB w (.slice (some ⟨g, 16, none⟩) 32 32) mark := by
  have h1 := arr_rd h (o := 16) (k := 32) (c := 32) (by rw [List.length_append]; omega) (Nat.le_refl _) (by unfold maxLen; omega)
  rw [← hc, List.drop_left, ← hm, List.take_length, hc, hm] at h1
  exact h1
theorem mac16 {w : World} {g : Nat} {t : TypeId} {m : List UInt8} (hm : m.length = 32) (h : Blk w g (byts m).toArray t) : RdB w (.slice (some ⟨g, 0, none⟩) 16 32) (m.take 16) := by
  have h1 := arr_rd h (o := 0) (k := 16) (c := 32) (by omega) (by omega) (by unfold maxLen; omega)
  rw [List.drop_zero] at h1
  exact h1
set_option maxHeartbeats 4000000 in
set_option maxRecDepth 10000 in
theorem seal_good {code mark text : List UInt8} {dn : Bool} {n : Nat} {tv : Value} {w : World} (hc : code.length = 16) (hm : mark.length = 32) (hn : n < 9223372036854775808) (ht : RdB w tv text) (hl : text.length ≤ 1200) :
    Calls Try.prog 14 #[.agg (byts (code ++ mark)).toArray, nonceV dn n, tv] w fun e w' => ∃ v, e = .returned (.tuple #[v, .int .i64 0]) ∧ w'.ownsRow w.heap.size 5 1 v (packL code mark (wordL dn n) text).length (byts (packL code mark (wordL dn n) text)) ∧ Fr0 w w' := by
  obtain ⟨At, ct, rfl, -, -, -⟩ := ht.form
  have hwd := word_lt dn hn
  have HWD := Lib.hid (fun W => show Calls Try.prog 9 #[nonceV dn n] W (fun e w' => e = .returned (.tuple #[.int .u64 (wordL dn n : Int), .int .i64 0]) ∧ Fr0 W w') by
    have h := nword_any (dn := dn) (n := n) (w := W) (by omega)
    rw [if_neg (by omega), if_neg (by omega)] at h
    exact h)
  obtain ⟨wd, hwd2⟩ : ∃ d, d = wordL dn n := ⟨_, rfl⟩
  rw [← hwd2] at HWD hwd ⊢
  have HFX := Lib.hid (fun W => show Calls Try.prog 21 #[.int .u64 (wd : Int), .int .i64 8] W (fun e w' => ∃ v, e = .returned v ∧ w'.ownsRow W.heap.size 5 1 v 8 (byts (fixForm wd 8)) ∧ Fr0 W w') by
    have h := wireFixed_any wd 8 hwd W
    rw [show fixed wd 8 = fixForm wd 8 from rfl, fixForm_len] at h
    exact h)
  have HTN := Lib.hid (fun W (hf : Fr0 w W) => show Calls Try.prog 22 #[.agg (byts code).toArray, .int .u64 (wd : Int), .slice At text.length ct] W (fun e w' => ∃ g, e = .returned (.slice (some ⟨g, 0, none⟩) text.length text.length) ∧ Blk w' g (byts (tnL code wd text)).toArray 5 ∧ W.heap.size ≤ g ∧ Fr0 W w') from pturn_any hc hwd (ht.fr0 hf) (by omega))
  have HPK := Lib.hid (packL_eq code mark wd text)
  have HPL := Lib.hid (show (packL code mark wd text).length = 8 + text.length + 16 by rw [packL_len]; omega)
  have HLT := Lib.hid (tnL_len code wd text)
  have HLF := Lib.hid (fixForm_len wd 8)
  have HT9 := Lib.hid (show text.length ≤ 100000 by omega)
  have HL := Lib.hid hl
  have HPI := Lib.hid (show (Try.prog.info? 31).map (·.size) = some (byts (((code ++ mark).drop 0).take 16)).length by rw [byts_len, List.drop_zero, List.length_take, List.length_append, hc, hm]; kernel_rfl)
  have HCD := Lib.hid (show ((code ++ mark).drop 0).take 16 = code by rw [List.drop_zero, ← hc, List.take_left])
  have hcodeq := HCD.out
  have K0 := Lib.hid ((Blk.new w (byts (code ++ mark)).toArray 34).alloc (.cells #[.bool dn, .int .u64 (n : Int)] 24))
  have N0 := Lib.hid (Blk.new (w.alloc (.cells (byts (code ++ mark)).toArray 34)) #[.bool dn, .int .u64 (n : Int)] 24)
  have F0 := Lib.hid (((Fr0.refl w).alloc (.cells (byts (code ++ mark)).toArray 34)).alloc (.cells #[.bool dn, .int .u64 (n : Int)] 24))
  have N1 := N0.out
  rw [World.size_alloc] at N1
  replace N0 := Lib.hid N1
  have HMK := Lib.hid (fun W g (h : Blk W g (byts (code ++ mark)).toArray 34) => key_mark hc hm h)
  have HML := Lib.hid (show mark.length ≤ 900000 by omega)
  obtain ⟨FX, hFX⟩ : ∃ f, f = fixForm wd 8 := ⟨_, rfl⟩
  rw [← hFX] at HFX HPK HLF
  obtain ⟨TX, hTX⟩ : ∃ f, f = tnL code wd text := ⟨_, rfl⟩
  rw [← hTX] at HTN HPK HLT
  obtain ⟨PK, hPK⟩ : ∃ f, f = packL code mark wd text := ⟨_, rfl⟩
  rw [← hPK] at HPK HPL ⊢
  obtain ⟨nt, hnt⟩ : ∃ f, f = text.length := ⟨_, rfl⟩
  rw [← hnt] at HTN HPL HLT HT9 HL ⊢
  obtain ⟨gk, hgk⟩ : ∃ f, f = w.heap.size := ⟨_, rfl⟩
  rw [← hgk] at K0 N0
  have HGK := Lib.hid hgk
  have t1 : decide ((1200 : Int) < (nt : Int)) = false := decide_eq_false (by omega)
  unfold nonceV at HWD ⊢
  obtain ⟨ckm, hckm⟩ : ∃ c, c = (byts (code ++ mark)).toArray := ⟨_, rfl⟩
  have HCK := Lib.hid hckm
  clear hcodeq N1 hFX hTX hPK hnt hwd2 ht hl hc hm hn hwd
  clear hgk
  go_enter Try.func14, Try.ntmps14
  go_upto_region 6 with (first
    | (go_at_call 9; refine (HWD.out _).mono ?_; rintro e w3 ⟨rfl, hf⟩; have F3 := Lib.hid (Fr0.trans F0.out hf); have K3 := Lib.hid ((K0.out).fr0 hf); clear hf)
    | (refine list_load_blk rfl 24 _ rfl (gk + 1) rfl 24 #[.bool dn, .int .u64 (n : Int)] N0.out _ Try.underlying24 rfl (by kernel_rfl) ?_))
  rw [← HGK.out]
  go_cut [10] (fun s10 wx => ∃ (A : Option Addr) (c : Nat), s10 = .slice A (8 + nt) c ∧ wx.ownsRow gk 5 1 (.slice A (8 + nt) c) (8 + nt) (byts (FX ++ TX)) ∧ Blk wx gk (byts (code ++ mark)).toArray 34 ∧ Fr0 w wx)
  case first =>
    have FA := Lib.hid ((F3.out).drew)
    have KA := Lib.hid ((K3.out).drew)
    have UF := Lib.hid (Fr0.refl w3.drew)
    clear F3 K3
    rw [← HCD.out] at HTN
    refine wp_region_held_drew (S := (fun W => Fr0 w3.drew W)) (by kernel_rfl) UF.out (fun hHeld => ?_)
    generalize w3.drew = wa at *
    have _hI : True := trivial
    clear _hI
    refine takeH (i := 0) rfl (by kernel_rfl) (by kernel_rfl) (by kernel_rfl) (fun _ _ _ h => h) (v := .int .u64 (wd : Int)) (.inl ⟨rfl, fun W hW => (by go_simp; try rfl)⟩) UF.out ?_
    try simp only [Act.put, List.setIfInBounds_toArray, List.set_cons_zero, List.set_cons_succ]
    have _hI : True := trivial
    clear _hI
    refine takeH (i := 2) rfl (by kernel_rfl) (by kernel_rfl) (by kernel_rfl) (fun _ _ _ h => h) (v := .pointer (some ⟨gk, 0, none⟩)) (.inl ⟨rfl, fun W hW => (by go_simp; try rfl)⟩) UF.out ?_
    try simp only [Act.put, List.setIfInBounds_toArray, List.set_cons_zero, List.set_cons_succ]
    have _hI : True := trivial
    clear _hI
    refine takeH (i := 3) rfl (by kernel_rfl) (by kernel_rfl) (by kernel_rfl) (fun _ _ _ h => h) (yields_load_part rfl 31 _ rfl gk 0 rfl 34 (code ++ mark) 16 (fun W hW => (KA.out).fr0 hW) _ Try.underlying31 rfl HPI.out) UF.out ?_
    try simp only [Act.put, List.setIfInBounds_toArray, List.set_cons_zero, List.set_cons_succ]
    have _hI : True := trivial
    clear _hI
    refine takeH (i := 4) rfl (by kernel_rfl) (by kernel_rfl) (by kernel_rfl) (fun _ _ _ h => h) (v := .int .u64 (wd : Int)) (.inl ⟨rfl, fun W hW => (by go_simp; try rfl)⟩) UF.out ?_
    try simp only [Act.put, List.setIfInBounds_toArray, List.set_cons_zero, List.set_cons_succ]
    have _hI : True := trivial
    clear _hI
    refine takeH (i := 5) rfl (by kernel_rfl) (by kernel_rfl) (by kernel_rfl) (fun _ _ _ h => h) (v := .slice At nt ct) (.inl ⟨rfl, fun W hW => (by go_simp; try rfl)⟩) UF.out ?_
    try simp only [Act.put, List.setIfInBounds_toArray, List.set_cons_zero, List.set_cons_succ]
    have _hI : True := trivial
    clear _hI
    refine wpAnyH_ready (rs := [1]) (by kernel_rfl) (by simp) (consG rfl rfl (fun K hK => ?_) AllReadyH.nil)
    have _hI : True := trivial
    clear _hI
    go_simp
    refine (HFX.out _).mono ?_
    rintro e Wn ⟨v, rfl, ho, hf⟩
    replace UF2 := Lib.hid (Fr0.trans UF.out hf)
    have VO := Lib.hid (own_baseW ho (UF.out).size)
    replace UF := UF2
    clear UF2 ho hf
    refine hK.out _ _ UF.out ?_
    clear hK
    try simp only [Act.put, List.setIfInBounds_toArray, List.set_cons_zero, List.set_cons_succ]
    have _hI : True := trivial
    clear _hI
    refine wpAnyH_ready (rs := [6]) (by kernel_rfl) (by simp) (consG rfl rfl (fun K hK => ?_) AllReadyH.nil)
    have _hI : True := trivial
    clear _hI
    go_simp
    refine (HTN.out _ (Fr0.trans FA.out UF.out)).mono ?_
    rintro e Wn ⟨gt, rfl, hb, hl, hf⟩
    replace UF2 := Lib.hid (Fr0.trans UF.out hf)
    have TB := Lib.hid hb
    replace VO := Lib.hid (own_fr VO.out hf (fun _ _ h => h))
    replace UF := UF2
    clear UF2 hb hl hf
    refine hK.out _ _ UF.out ?_
    clear hK
    try simp only [Act.put, List.setIfInBounds_toArray, List.set_cons_zero, List.set_cons_succ]
    have _hI : True := trivial
    clear _hI
    refine wpAnyH_ready (rs := [7]) (by kernel_rfl) (by simp) (consG rfl rfl (fun K hK => ?_) AllReadyH.nil)
    have _hI : True := trivial
    clear _hI
    refine wp_append_own (base := wa.heap.size) (n := 8) (d := FX) (e := TX) _ _ rfl (UF.out).size VO.out rfl (rd64b TB.out HLT.out HT9.out) rfl (by rw [HLT.out]; have := HT9.out; omega) ?_
    intro A7 c7 w7 hO hF
    replace UF := Lib.hid (Fr.then UF.out hF (fun i hi hl => by have := (own_lt' VO.out i hi).1; omega))
    rw [HLT.out] at hO ⊢
    have AO := Lib.hid hO
    clear hO hF
    refine hK.out _ _ UF.out ?_
    clear hK
    try simp only [Act.put, List.setIfInBounds_toArray, List.set_cons_zero, List.set_cons_succ]
    have _hI : True := trivial
    clear _hI
    refine takeH (i := 8) rfl (by kernel_rfl) (by kernel_rfl) (by kernel_rfl) (fun _ _ _ h => h) (v := .slice A7 (8 + nt) c7) (.inl ⟨rfl, fun W hW => (by go_simp; try rfl)⟩) UF.out ?_
    try simp only [Act.put, List.setIfInBounds_toArray, List.set_cons_zero, List.set_cons_succ]
    refine wpAnyH_done (by kernel_rfl) ?_ _
    go_wp2_with fail
    go_meet
    exact ⟨A7, c7, rfl, own_baseW AO.out (by rw [HGK.out]; exact (FA.out).size), (KA.out).fr0 UF.out, Fr0.trans FA.out UF.out⟩
  case rest =>
    obtain ⟨A, c, rfl, hO, hK, hF⟩ := hcut
    have O := Lib.hid hO
    have K := Lib.hid hK
    have F := Lib.hid hF
    clear hO hK hF F3 K3
    have HRUN := Lib.hid (fun W => z32_run W)
    have HIM := Lib.hid (dig_info (macN_len mark (FX ++ TX)))
    have HZM := Lib.hid (z32_size (macN_len mark (FX ++ TX)))
    have ham := byts_all (macN mark (FX ++ TX))
    have HM16 := Lib.hid (fun W g (h : Blk W g (byts (macN mark (FX ++ TX))).toArray 32) => mac16 (macN_len mark (FX ++ TX)) h)
    have HLH := Lib.hid (show (FX ++ TX).length = 8 + nt by rw [List.length_append, HLF.out, HLT.out])
    have HLM := Lib.hid (show ((macN mark (FX ++ TX)).take 16).length = 16 by rw [List.length_take, macN_len]; rfl)
    have HMO := Lib.hid (fun W g (hk : Blk W gk (byts (code ++ mark)).toArray 34) (ho : W.ownsRow gk 5 1 (.slice A (8 + nt) c) (8 + nt) (byts (FX ++ TX))) (hb : Blk W g #[.slice A (8 + nt) c] 35) =>
      mof_one (HMK.out W gk hk) HML.out (show RdB W (.slice A (8 + nt) c) (FX ++ TX) by have h := Rd.of_own ho; rw [← HLH.out] at h ⊢; exact h) (by rw [HLH.out]; have := HT9.out; omega) hb)
    obtain ⟨HD, hHD⟩ : ∃ h, h = FX ++ TX := ⟨_, rfl⟩
    rw [← hHD] at HPK HIM HZM ham HM16 HLH HLM HMO O
    obtain ⟨MC, hMC⟩ : ∃ h, h = macN mark HD := ⟨_, rfl⟩
    rw [← hMC] at HPK HIM HZM ham HM16 HLM HMO
    obtain ⟨MT, hMT⟩ : ∃ h, h = MC.take 16 := ⟨_, rfl⟩
    rw [← hMT] at HPK HM16 HLM
    obtain ⟨z, hz⟩ : ∃ z, z = z32A := ⟨_, rfl⟩
    rw [← hz] at HRUN HZM
    have HM9 := Lib.hid (show nt ≤ 100000 from HT9.out)
    have GKW := Lib.hid (show gk ≤ wc.heap.size by rw [HGK.out]; exact (F.out).size)
    clear hHD hMC hMT hz HMK HML HFX HTN HWD K0 N0 F0 HCD HPI HCK hckm
    go_wp2_with (first
      | (have _q := S5; refine wpList_plain rfl fun KK hKK => ?_; refine wp_append_own (base := gk) (n := 8 + nt) (d := HD) (e := MT) _ _ rfl G5.out O5.out rfl (HM16.out _ _ S5.out) rfl (by rw [HLM.out]; have := HM9.out; omega) ?_; intro A8 c8 w8 hO hF; refine hKK _ _ ?_; have O8 := Lib.hid hO; have F8 := Lib.hid (Fr.then F5.out hF (fun i hi hl => by have := (own_lt' O5.out i hi).1; have := HGK.out; omega)); clear hO hF)
      | (have _q := X4; refine list_store_blk rfl 32 _ _ rfl g11 (byts MC).toArray rfl rfl 32 z X4.out HIM.out HZM.out ham ?_; intro w5 hB hF; have S5 := Lib.hid hB; have F5 := Lib.hid (Fr0.new F4.out hF (Nat.le_trans (F3.out).size L4.out)); have O5 := Lib.hid (own_fr O4.out hF (fun k hk e => own_ne O4.out X4.out (by decide) _ hk e)); have G5 := Lib.hid (Nat.le_trans (Nat.le_trans GKW.out (Nat.le_trans (UF4.out).size (Nat.le_refl _))) hF.size); clear hB hF)
      | (have _q := F3; refine list_alloc_blk rfl 32 rfl z HRUN.out ?_; intro g11 w4 hB hF hl; have X4 := Lib.hid hB; have F4 := Lib.hid (Fr0.trans F3.out hF); have UF4 := Lib.hid (Fr0.trans UF3.out hF); have L4 := Lib.hid hl; have O4 := Lib.hid (own_fr O3.out hF (fun _ _ h => h)); clear hB hF hl)
      | (go_at_call 23; refine (HMO.out _ _ K2.out O2.out B2.out).mono ?_; rintro e w3' ⟨rfl, hf⟩; have F3 := Lib.hid (Fr0.trans F2.out hf); have UF3 := Lib.hid (Fr0.trans UF2.out hf); have O3 := Lib.hid (own_fr O2.out hf (fun _ _ h => h)); clear hf)
      | (refine list_built_blk rfl 65 35 _ _ rfl #[.slice A (8 + nt) c] (fun W => by go_simp; try rfl) ?_; intro gb w2 hB hF hl; have B2 := Lib.hid hB; have F2 := Lib.hid (Fr0.trans F.out hF); have UF2 := Lib.hid hF; have K2 := Lib.hid ((K.out).fr0 hF); have O2 := Lib.hid (own_fr O.out hF (fun _ _ h => h)); clear hB hF hl))
    go_ret2
    refine ⟨_, rfl, ?_, F8.out⟩
    rw [HPK.out, ← HGK.out, List.length_append, HLH.out]
    exact O8.out
set_option maxHeartbeats 4000000 in
set_option maxRecDepth 10000 in
theorem seal_far {code mark : List UInt8} {dn : Bool} {n : Nat} {tv : Value} {w : World} (hn : n < 18446744073709551616) (h2 : 9223372036854775808 ≤ n) :
    Calls Try.prog 14 #[.agg (byts (code ++ mark)).toArray, nonceV dn n, tv] w fun e w' => e = .returned (.tuple #[.slice none 0 0, .int .i64 2]) ∧ Fr0 w w' := by
  have HWD := Lib.hid (fun W => show Calls Try.prog 9 #[nonceV dn n] W (fun e w' => e = .returned (.tuple #[.int .u64 0, .int .i64 2]) ∧ Fr0 W w') by
    have h := nword_any (dn := dn) (n := n) (w := W) hn
    rw [if_pos h2, if_pos h2] at h
    exact h)
  obtain ⟨ck, hck⟩ : ∃ c, c = (byts (code ++ mark)).toArray := ⟨_, rfl⟩
  rw [← hck]
  have F0 := Lib.hid (((Fr0.refl w).alloc (.cells ck 34)).alloc (.cells #[.bool dn, .int .u64 (n : Int)] 24))
  unfold nonceV at HWD ⊢
  clear hck h2 hn
  go_enter Try.func14, Try.ntmps14
  go_wp2_with (go_at_call 9; refine (HWD.out _).mono ?_; rintro e w3 ⟨rfl, hf⟩; have F3 := Lib.hid (Fr0.trans F0.out hf); clear hf)
  go_ret2
  exact ⟨rfl, F3.out⟩
set_option maxHeartbeats 4000000 in
set_option maxRecDepth 10000 in
theorem seal_long {code mark text : List UInt8} {dn : Bool} {n : Nat} {tv : Value} {w : World} (hn : n < 9223372036854775808) (ht : RdB w tv text) (hl : 1200 < text.length) :
    Calls Try.prog 14 #[.agg (byts (code ++ mark)).toArray, nonceV dn n, tv] w fun e w' => e = .returned (.tuple #[.slice none 0 0, .int .i64 3]) ∧ Fr0 w w' := by
  obtain ⟨At, ct, rfl, -, -, -⟩ := ht.form
  have HWD := Lib.hid (fun W => show Calls Try.prog 9 #[nonceV dn n] W (fun e w' => e = .returned (.tuple #[.int .u64 (wordL dn n : Int), .int .i64 0]) ∧ Fr0 W w') by
    have h := nword_any (dn := dn) (n := n) (w := W) (by omega)
    rw [if_neg (by omega), if_neg (by omega)] at h
    exact h)
  obtain ⟨wd, hwd2⟩ : ∃ d, d = wordL dn n := ⟨_, rfl⟩
  rw [← hwd2] at HWD
  obtain ⟨nt, hnt⟩ : ∃ f, f = text.length := ⟨_, rfl⟩
  rw [← hnt] at hl ⊢
  have t1 : decide ((1200 : Int) < (nt : Int)) = true := decide_eq_true (by omega)
  obtain ⟨ck, hck⟩ : ∃ c, c = (byts (code ++ mark)).toArray := ⟨_, rfl⟩
  rw [← hck]
  have F0 := Lib.hid (((Fr0.refl w).alloc (.cells ck 34)).alloc (.cells #[.bool dn, .int .u64 (n : Int)] 24))
  unfold nonceV at HWD ⊢
  clear hck hn hnt hl ht hwd2
  go_enter Try.func14, Try.ntmps14
  go_wp2_with (go_at_call 9; refine (HWD.out _).mono ?_; rintro e w3 ⟨rfl, hf⟩; have F3 := Lib.hid (Fr0.trans F0.out hf); clear hf)
  go_ret2
  exact ⟨rfl, F3.out⟩
/-- What Seal answers. -/
def sealP (code mark : List UInt8) (dn : Bool) (n : Nat) (text : List UInt8) : List UInt8 × Int := if 9223372036854775808 ≤ n then ([], 2) else if 1200 < text.length then ([], 3) else (packL code mark (wordL dn n) text, 0)
theorem seal_any {code mark text : List UInt8} {dn : Bool} {n : Nat} {tv : Value} {w : World} (hc : code.length = 16) (hm : mark.length = 32) (hn : n < 18446744073709551616) (ht : RdB w tv text) :
    Calls Try.prog 14 #[.agg (byts (code ++ mark)).toArray, nonceV dn n, tv] w fun e w' => ∃ v, e = .returned (.tuple #[v, .int .i64 (sealP code mark dn n text).2]) ∧ w'.ownsRow w.heap.size 5 1 v (sealP code mark dn n text).1.length (byts (sealP code mark dn n text).1) ∧ Fr0 w w' := by
  by_cases h2 : 9223372036854775808 ≤ n
  · rw [show sealP code mark dn n text = ([], 2) from if_pos h2]
    refine (seal_far hn h2).mono ?_
    rintro e w' ⟨rfl, hf⟩
    exact ⟨_, rfl, World.ownsRow_nil _ _ _ _, hf⟩
  by_cases h3 : 1200 < text.length
  · rw [show sealP code mark dn n text = ([], 3) by unfold sealP; rw [if_neg h2, if_pos h3]]
    refine (seal_long (by omega) ht h3).mono ?_
    rintro e w' ⟨rfl, hf⟩
    exact ⟨_, rfl, World.ownsRow_nil _ _ _ _, hf⟩
  rw [show sealP code mark dn n text = (packL code mark (wordL dn n) text, 0) by unfold sealP; rw [if_neg h2, if_neg h3]]
  exact seal_good hc hm (by omega) ht (by omega)
end Go.Proofs.Ytpmindbipclphaa
set_option linter.unusedSimpArgs false
set_option linter.unusedVariables false
namespace Go.Proofs.Ytpmindbipclphaa
open Go.RowKit

theorem RdB.cap {w : World} {c : Nat} {A : Option Addr} {d : List UInt8} (h : RdB w (.slice A d.length c) d) : RdB w (.slice A d.length d.length) d := by
  obtain ⟨A', c', hv, h1, h2, h3⟩ := h.form
  injection hv with hA _ hc
  subst hA hc
  refine ⟨Rd.len h, ⟨A, d.length, rfl, Nat.le_refl _, by omega, fun hA => by have := h3 hA; omega⟩, fun hn => ?_⟩
  obtain ⟨g, off, c', cur, t, fz, hv, hb, hc⟩ := Rd.cells h hn
  injection hv with hA _ _
  subst hA
  exact ⟨g, off, d.length, cur, t, fz, rfl, hb, hc⟩
/-- 'd[:k:k]', its value under a name. -/
theorem slice_hm {w : World} {A : Option Addr} {c n k : Nat} {d : List UInt8} (h : RdB w (.slice A n c) d) (hn : n = d.length) (hk : k ≤ n) :
    (∀ w', (Instr.slice 35 (.slice A n c) none (some (.int .i64 (k : Int))) (some (.int .i64 (k : Int)))).run Try.prog w' = .ok (.slice A k k) w') ∧ RdB w (.slice A k k) (d.take k) := by
  subst hn
  have hel : (Try.prog).elem 35 = 5 := by simp [Program.elem, Try.underlying35]
  have hsz : ∀ w', (sizeOf 5).run Try.prog w' = .ok 1 w' := fun w' => by kernel_rfl
  have hnc : d.length ≤ c := by obtain ⟨A', c', hv, h1, _⟩ := h.form; injection hv with _ _ hc; omega
  refine ⟨fun w' => ?_, ?_⟩
  · have hb : (Instr.sliceBounds true d.length c none (some (.int .i64 (k : Int))) (some (.int .i64 (k : Int)))).run Try.prog w' = .ok (0, k, k) w' := by
      have h0 : (0 : Int) ≤ (k : Int) := by omega
      have h1 : (k : Int) ≤ (c : Int) := by omega
      simp [Instr.sliceBounds, run_sliceBound, go_sem, *]
    rw [run_slice_any (w := w') 35 A d.length c (by rw [hel]; exact Try.underlying35), hb]
    simp only [Result.andThen_ok, hel, hsz w']
    cases A <;> simp [sliced, Addr.add]
  · have h1 := h.take hk
    have hl : (d.take k).length = k := by rw [List.length_take]; omega
    rw [show RdB w (.slice A k c) (d.take k) = RdB w (.slice A (d.take k).length c) (d.take k) by rw [hl]] at h1
    have h2 := h1.cap
    rwa [hl] at h2
/-- 'd[k:len:len]', its value under a name. -/
theorem slice_lhm {w : World} {A : Option Addr} {c n k : Nat} {d : List UInt8} (h : RdB w (.slice A n c) d) (hn : n = d.length) (hk : k ≤ n) :
    ∃ A', (∀ w', (Instr.slice 35 (.slice A n c) (some (.int .i64 (k : Int))) (some (.int .i64 (n : Int))) (some (.int .i64 (n : Int)))).run Try.prog w' = .ok (.slice A' (n - k) (n - k)) w') ∧ RdB w (.slice A' (n - k) (n - k)) (d.drop k) := by
  subst hn
  have hel : (Try.prog).elem 35 = 5 := by simp [Program.elem, Try.underlying35]
  have hsz : ∀ w', (sizeOf 5).run Try.prog w' = .ok 1 w' := fun w' => by kernel_rfl
  have hnc : d.length ≤ c := by obtain ⟨A', c', hv, h1, _⟩ := h.form; injection hv with _ _ hc; omega
  refine ⟨if d.length = k then A else A.map (·.add k), fun w' => ?_, ?_⟩
  · rw [run_slice_lhm (w := w') 35 A d.length c (by rw [hel]; exact Try.underlying35) .i64 .i64 .i64 (k : Int) (d.length : Int) (d.length : Int) (by omega) (by omega) (by omega) (by omega), hel, hsz w']
    simp [Result.andThen, sliced]
  · exact h.cap.drop hk
set_option maxHeartbeats 1000000 in
theorem parts_bad {b : List UInt8} {v : Value} {w : World} (hb : RdB w v b) (h : b.length < 24 ∨ 1224 < b.length) :
    Calls Try.prog 26 #[v] w fun e w' => e = .returned (.tuple #[.slice none 0 0, .slice none 0 0, .bool false]) ∧ w = w' := by
  obtain ⟨A, c, rfl, -, -, -⟩ := hb.form
  obtain ⟨n, hn⟩ : ∃ n, n = b.length := ⟨_, rfl⟩
  rw [← hn] at h ⊢
  clear hn hb
  by_cases h1 : n < 24
  · have t1 : (n : Int) < 24 := by omega
    clear h h1
    go_enter Try.func26, Try.ntmps26
    go_wp2_with fail
    go_ret3
    exact ⟨rfl, rfl⟩
  · have t1 : (24 : Int) ≤ n := by omega
    have t2 : (1224 : Int) < n := by omega
    clear h h1
    go_enter Try.func26, Try.ntmps26
    go_wp2_with fail
    go_ret3
    exact ⟨rfl, rfl⟩
set_option maxHeartbeats 1000000 in
theorem parts_good {b : List UInt8} {v : Value} {w : World} (hb : RdB w v b) (h : 24 ≤ b.length) (h2 : b.length ≤ 1224) :
    Calls Try.prog 26 #[v] w fun e w' => ∃ v1 v2, e = .returned (.tuple #[v1, v2, .bool true]) ∧ RdB w v1 (b.take (b.length - 16)) ∧ RdB w v2 (b.drop (b.length - 16)) ∧ Fr0 w w' := by
  obtain ⟨A, c, rfl, hc, hm, hno⟩ := hb.form
  obtain ⟨n, hn⟩ : ∃ n, n = b.length := ⟨_, rfl⟩
  rw [← hn] at h h2 hc hb ⊢
  obtain ⟨k, hk⟩ : ∃ k, k = n - 16 := ⟨_, rfl⟩
  rw [← hk]
  obtain ⟨s1, r1⟩ := slice_hm hb hn (k := k) (by omega)
  obtain ⟨A2, s2, r2⟩ := slice_lhm hb hn (k := k) (by omega)
  obtain ⟨m, hm⟩ : ∃ m, m = n - k := ⟨_, rfl⟩
  rw [← hm] at s2 r2
  have R1 := Lib.hid r1
  have R2 := Lib.hid r2
  have t1 : (24 : Int) ≤ n := by omega
  have t2 : (n : Int) ≤ 1224 := by omega
  have t3 : IntKind.i64.wrap ((n : Int) - 16) = (k : Int) := by rw [show (n : Int) - 16 = (k : Int) by omega]; exact IntWalk.i64_in _ (by omega)
  clear hb hn hno r1 r2 hk hm h h2 hc
  go_enter Try.func26, Try.ntmps26
  go_upto_region 4 with (fail)
  go_quiet (fail)
  go_wp2_with fail
  go_ret3
  exact ⟨_, _, rfl, R1.out, R2.out, (Fr0.refl w).drewN _⟩
end Go.Proofs.Ytpmindbipclphaa
set_option linter.unusedSimpArgs false
namespace Go.Proofs.Ytpmindbipclphaa
open Go.RowKit

/-- What is left of bytes that part. -/
def foldX (a b : List UInt8) : Nat → UInt8
  | 0 => 0
  | n + 1 => foldX a b n ||| (a.getD n 0 ^^^ b.getD n 0)
theorem or_zero8 (x y : UInt8) : x ||| y = 0 ↔ x = 0 ∧ y = 0 := by
  constructor
  · intro h
    have h2 : (x ||| y).toNat = 0 := by rw [h]; rfl
    rw [UInt8.toNat_or] at h2
    have := Nat.or_eq_zero_iff.1 h2
    exact ⟨UInt8.toNat_inj.1 this.1, UInt8.toNat_inj.1 this.2⟩
  · rintro ⟨rfl, rfl⟩; rfl
theorem xor_zero8 (x y : UInt8) : x ^^^ y = 0 ↔ x = y := by
  constructor
  · intro h
    have h2 : (x ^^^ y) ^^^ y = 0 ^^^ y := by rw [h]
    rwa [UInt8.xor_assoc, UInt8.xor_self, UInt8.xor_zero, UInt8.zero_xor] at h2
  · rintro rfl; simp
theorem foldX_zero (a b : List UInt8) : ∀ n, foldX a b n = 0 ↔ ∀ i, i < n → a.getD i 0 = b.getD i 0
  | 0 => ⟨fun _ i hi => absurd hi (by omega), fun _ => rfl⟩
  | n + 1 => by
    rw [foldX, or_zero8, foldX_zero a b n, xor_zero8]
    constructor
    · rintro ⟨h1, h2⟩ i hi
      rcases (by omega : i < n ∨ i = n) with h | rfl
      · exact h1 i h
      · exact h2
    · intro h
      exact ⟨fun i hi => h i (by omega), h n (by omega)⟩
theorem fold_same {a b : List UInt8} (h : a.length = b.length) : (foldX a b a.length = 0) ↔ a = b := by
  rw [foldX_zero]
  constructor
  · intro hh
    apply List.ext_getElem h
    intro i h1 h2
    have := hh i h1
    simpa [List.getD, h1, h2] using this
  · rintro rfl i _; rfl
/-- Are both the same? -/
def sameB (a b : List UInt8) : Bool := decide (a = b)
set_option maxHeartbeats 1000000 in
set_option maxRecDepth 10000 in
theorem msame_any {va vb : Value} {a b : List UInt8} {w : World} (ha : RdB w va a) (hb : RdB w vb b) : Calls Try.prog 27 #[va, vb] w fun e w' => e = .returned (.bool (sameB a b)) ∧ Fr0 w w' := by
  obtain ⟨Aa, ca, rfl, ha1, ha2, -⟩ := ha.form
  obtain ⟨Ab, cb, rfl, hb1, hb2, -⟩ := hb.form
  unfold maxLen at ha2 hb2
  have HA := Lib.hid (show RdB w (.slice Aa a.length ca) a from ha)
  have HB := Lib.hid (show RdB w (.slice Ab b.length cb) b from hb)
  by_cases hl : a.length = b.length
  · have HS := Lib.hid (fold_same hl)
    have HSB := Lib.hid (show sameB a b = decide (a = b) from rfl)
    obtain ⟨n, hn⟩ : ∃ n, n = a.length := ⟨_, rfl⟩
    rw [← hl, ← hn] at HB hb1
    rw [← hn] at HA HS ha1
    rw [← hl, ← hn]
    have HN := Lib.hid hn
    have HLB := Lib.hid (hn.trans hl)
    obtain ⟨sb, hsb⟩ : ∃ s, s = sameB a b := ⟨_, rfl⟩
    rw [← hsb] at HSB ⊢
    clear ha hb hl hn hsb
    go_enter Try.func27, Try.ntmps27
    go_wp2_with fail
    go_loopw [5, 14] (fun v5 v14 wr => ∃ k : Nat, k ≤ n ∧ v14 = .int .i64 k ∧ v5 = .int .u8 ((foldX a b k).toNat : Int) ∧ Fr0 w wr) (fun _ v14 _ => n - (intOf v14).toNat)
    case atStart => exact ⟨0, by omega, rfl, rfl, Fr0.refl w⟩
    case round =>
      obtain ⟨k, hk, rfl, rfl, hF⟩ := hrel
      by_cases hlt : k < n
      · have hka : k < a.length := by rw [← HN.out]; exact hlt
        have hkb : k < b.length := by rw [← HLB.out]; exact hlt
        obtain ⟨ga, oa, ca', hva, hca, _, da⟩ := (show RdB w (.slice Aa a.length ca) a from by rw [← HN.out]; exact HA.out).cell hka
        obtain ⟨gb, ob, cb', hvb, hcb, _, db⟩ := (show RdB w (.slice Ab b.length cb) b from by rw [← HLB.out]; exact HB.out).cell hkb
        injection hva with hA1 _ hA2
        injection hvb with hB1 _ hB2
        subst hA1 hB1
        have ea := hF.cell da
        have eb := hF.cell db
        have i0 : (0 : Int) ≤ (k : Int) := by omega
        have i1 : (k : Int) < (n : Int) := by omega
        have HC := Lib.hid (fun (W : World) (h : Fr0 w W) => show W.cell? ⟨ga, oa + k, none⟩ = some (.int .u8 ((a[k]).toNat : Int)) ∧ W.cell? ⟨gb, ob + k, none⟩ = some (.int .u8 ((b[k]).toNat : Int)) from ⟨h.cell da, h.cell db⟩)
        have hx : bits .xor .u8 ((a[k]).toNat : Int) ((b[k]).toNat : Int) = ((a[k] ^^^ b[k]).toNat : Int) := by
          rw [UInt8.toNat_xor]; exact u8_xor_nat _ _ (a[k]).toNat_lt (b[k]).toNat_lt
        have ho : bits .or .u8 ((foldX a b k).toNat : Int) ((a[k] ^^^ b[k]).toNat : Int) = ((foldX a b (k + 1)).toNat : Int) := by
          have e : foldX a b (k + 1) = foldX a b k ||| (a[k] ^^^ b[k]) := by rw [foldX]; simp [List.getD, hka, hkb]
          rw [e, UInt8.toNat_or]; exact u8_or_nat _ _ (foldX a b k).toNat_lt (a[k] ^^^ b[k]).toNat_lt
        obtain ⟨f1, hf1⟩ : ∃ f, f = foldX a b (k + 1) := ⟨_, rfl⟩
        obtain ⟨f0, hf0⟩ : ∃ f, f = foldX a b k := ⟨_, rfl⟩
        obtain ⟨xa, hxa⟩ : ∃ f, f = a[k] := ⟨_, rfl⟩
        obtain ⟨xb, hxb⟩ : ∃ f, f = b[k] := ⟨_, rfl⟩
        rw [← hf1, ← hf0, ← hxa, ← hxb] at ho
        rw [← hxa, ← hxb] at hx HC
        rw [UInt8.toNat_xor] at ho
        rw [← hf0]
        have HF1 := Lib.hid hf1
        have HF := Lib.hid hF
        have HX := Lib.hid hx
        have HO := Lib.hid ho
        clear hA2 hB2 hF da db ea eb hx ho hf1 hf0 hxa hxb hka hkb hca hcb
        go_wp2_with fail
        have hx := HX.out
        have ho := HO.out
        refine wp_region_class (fun W => Fr0 wr W) (by kernel_rfl) (by kernel_rfl) ((Fr0.refl _).drew) ?_
        iterate 12 (refine q_val rfl (fun W hW => by have hc := (HC.out) W (Fr0.trans HF.out hW); go_simp; try rfl) ?_; simp only [Act.put, List.setIfInBounds_toArray, List.set_cons_zero, List.set_cons_succ])
        refine q_nil ?_
        intro w' hC
        clear hx ho
        go_wp2_with fail
        go_roundw
        case measure => simp [intOf]; omega
        case rel => exact ⟨k + 1, by omega, by go_num, by rw [HF1.out], Fr0.trans HF.out hC⟩
      · obtain rfl : k = n := by omega
        have HV := Lib.hid (show ((foldX a b k).toNat = 0) ↔ a = b from by
          rw [← HS.out]
          exact ⟨fun h => UInt8.toNat_inj.1 h, fun h => by rw [h]; rfl⟩)
        obtain ⟨fz, hfz⟩ : ∃ f, f = (foldX a b k).toNat := ⟨_, rfl⟩
        rw [← hfz] at HV ⊢
        by_cases h0 : fz = 0
        · subst h0
          have HB1 := Lib.hid (HSB.out.trans (decide_eq_true ((HV.out).1 rfl)))
          clear hfz
          go_wp2_with fail
          go_ret
          exact ⟨by rw [HB1.out]; rfl, hF⟩
        · have HB1 := Lib.hid (HSB.out.trans (decide_eq_false (fun h => h0 ((HV.out).2 h))))
          have q1 : ((fz : Int) == 0) = false := by simp; omega
          have q2 : (fz == 0) = false := by simpa using h0
          clear hfz h0
          go_wp2_with fail
          go_ret
          exact ⟨by rw [HB1.out]; rfl, hF⟩
  · have hne : sameB a b = false := decide_eq_false (fun h => hl (by rw [h]))
    obtain ⟨na, hna⟩ : ∃ n, n = a.length := ⟨_, rfl⟩
    obtain ⟨nb, hnb⟩ : ∃ n, n = b.length := ⟨_, rfl⟩
    rw [← hna, ← hnb] at hl ⊢
    have q1 : ((na : Int) != (nb : Int)) = true := by simp; omega
    have q2 : (na != nb) = true := by simpa using hl
    have HNE := Lib.hid hne
    rw [hne]
    clear ha hb hna hnb hl hne
    go_enter Try.func27, Try.ntmps27
    go_wp2_with fail
    go_ret
    exact ⟨rfl, Fr0.refl w⟩
end Go.Proofs.Ytpmindbipclphaa
namespace Go.Proofs.Ytpmindbipclphaa
open Go.RowKit

/-- What the step of Fixed finds. -/
def fStep (d : List UInt8) (size : Int) : Nat × Int :=
  if size < 1 ∨ 8 < size ∨ (d.length : Int) < size then (0, 4) else (size.toNat, 0)

set_option maxHeartbeats 400000 in
theorem fixed1_any {p b0 b1 : Nat} {A : Option Addr} {c : Nat} {d : List UInt8} {e : Int} {size : Int} {w : World} (h : RdrV w p A c d e) (_hn : d.length ≤ 100000000) (hm : -9223372036854775808 ≤ size ∧ size ≤ 9223372036854775807)
    (h0 : Blk w b0 #[.int .i64 size] 3) (h1 : Blk w b1 #[.pointer (some ⟨p, 0, none⟩)] 56) :
    Calls Try.prog 44 #[.pointer (some ⟨b0, 0, none⟩), .pointer (some ⟨b1, 0, none⟩)] w fun x w' =>
      x = .returned (.tuple #[.int .i64 ((fStep d size).1 : Nat), .int .i64 (fStep d size).2]) ∧ Fr0 w w' := by
  have c0 : w.cell? ⟨p, 0, none⟩ = some (.slice A d.length c) := h.blk.cell 0 rfl
  have d0 : w.cell? ⟨b0, 0, none⟩ = some (.int .i64 size) := h0.cell 0 rfl
  have d1 : w.cell? ⟨b1, 0, none⟩ = some (.pointer (some ⟨p, 0, none⟩)) := h1.cell 0 rfl
  clear h h0 h1
  by_cases k0 : size < 1
  · have hS := Lib.hid (show fStep d size = (0, 4) by unfold fStep; rw [if_pos (.inl k0)])
    have q0 : decide (size < 1) = true := by simpa using k0
    clear k0
    go_enter Try.func44, Try.ntmps44
    go_wp2_with fail
    go_quiet (fail)
    go_wp2_with fail
    go_ret2
    rw [hS.out]
    exact ⟨rfl, (Fr0.refl w).drewN _⟩
  · have q0 : decide (size < 1) = false := by simpa using k0
    by_cases k1 : 8 < size
    · have hS := Lib.hid (show fStep d size = (0, 4) by unfold fStep; rw [if_pos (.inr (.inl k1))])
      have q1 : decide (8 < size) = true := by simpa using k1
      clear k0 k1
      go_enter Try.func44, Try.ntmps44
      go_wp2_with fail
      go_quiet (fail)
      go_wp2_with fail
      go_ret2
      rw [hS.out]
      exact ⟨rfl, (Fr0.refl w).drewN _⟩
    · have q1 : decide (8 < size) = false := by simpa using k1
      by_cases k2 : (d.length : Int) < size
      · have hS := Lib.hid (show fStep d size = (0, 4) by unfold fStep; rw [if_pos (.inr (.inr k2))])
        have q2 : decide ((d.length : Int) < size) = true := by simpa using k2
        clear k0 k1 k2
        go_enter Try.func44, Try.ntmps44
        go_wp2_with fail
        go_quiet (fail)
        go_wp2_with fail
        go_ret2
        rw [hS.out]
        exact ⟨rfl, (Fr0.refl w).drewN _⟩
      · have hS := Lib.hid (show fStep d size = (size.toNat, 0) by unfold fStep; rw [if_neg (by omega)])
        have q2 : decide ((d.length : Int) < size) = false := by simpa using k2
        have hs := Lib.hid (show 0 ≤ size by omega)
        clear k0 k1 k2
        go_enter Try.func44, Try.ntmps44
        go_wp2_with fail
        go_quiet (fail)
        go_wp2_with fail
        go_ret2
        rw [hS.out]
        have := hs.out
        exact ⟨by simp; omega, (Fr0.refl w).drewN _⟩
end Go.Proofs.Ytpmindbipclphaa
namespace Go.Proofs.Ytpmindbipclphaa
open Go.RowKit

/-- Bytes as a number, the first one highest. -/
def fixVal (l : List UInt8) : Nat := l.foldl (fun n x => n * 256 + x.toNat) 0
theorem fixVal_snoc (l : List UInt8) (x : UInt8) : fixVal (l ++ [x]) = fixVal l * 256 + x.toNat := by simp [fixVal]
theorem fixVal_lt (l : List UInt8) : fixVal l < 256 ^ l.length := by
  have gen : ∀ (l : List UInt8) (a k : Nat), a < 256 ^ k → l.foldl (fun n x => n * 256 + x.toNat) a < 256 ^ (k + l.length) := by
    intro l
    induction l with
    | nil => intro a k h; simpa using h
    | cons x r ih =>
      intro a k h
      have hx := x.toNat_lt
      have := ih (a * 256 + x.toNat) (k + 1) (by rw [Nat.pow_succ]; omega)
      rw [List.foldl_cons, List.length_cons, show k + (r.length + 1) = k + 1 + r.length by omega]
      exact this
  simpa [fixVal] using gen l 0 0 (by simp)
theorem or8 (n m : Nat) (hn : n ≤ 72057594037927935) (hm : m < 256) : bits .or .u64 ((n : Int) * 256) (m : Int) = (n : Int) * 256 + (m : Int) := by
  have h := u64_or_nat (n * 256) m (by omega) (by omega)
  have e : n * 256 ||| m = n * 256 + m := nat_join 8 (n * 256) m (by omega) (by omega)
  rw [e] at h
  have h' : bits .or .u64 ((n * 256 : Nat) : Int) (m : Int) = ((n * 256 + m : Nat) : Int) := h
  rw [show ((n * 256 : Nat) : Int) = (n : Int) * 256 by omega] at h'
  rw [h']
  omega

def rFixed (d : List UInt8) (e : Int) (size : Int) : Nat × List UInt8 × Int :=
  if e ≠ 0 then (0, d, e) else if (fStep d size).2 ≠ 0 then (0, d, 4) else (fixVal (d.take (fStep d size).1), d.drop (fStep d size).1, 0)

theorem fStep_facts (d : List UInt8) (size : Int) : ((fStep d size).2 = 0 → (fStep d size).1 ≤ d.length ∧ (fStep d size).1 ≤ 8) ∧ ((fStep d size).2 ≠ 0 → (fStep d size).2 = 4) := by
  unfold fStep
  split
  · simp
  · simp; omega

theorem fixed1_step {p b0 b1 : Nat} {A : Option Addr} {c : Nat} {d : List UInt8} {size : Int} {w : World} (h : RdrV w p A c d 0) (hn : d.length ≤ 100000000) (hm : -9223372036854775808 ≤ size ∧ size ≤ 9223372036854775807)
    (h0 : Blk w b0 #[.int .i64 size] 3) (h1 : Blk w b1 #[.pointer (some ⟨p, 0, none⟩)] 56) :
    StepFn w p A c d (.func (.func 44) #[] #[.pointer (some ⟨b0, 0, none⟩), .pointer (some ⟨b1, 0, none⟩)]) (fStep d size).1 (fStep d size).2 (fun w' => Fr0 w w') :=
  ⟨⟨_, _, _, rfl, fun args w1 => by kernel_rfl, fixed1_any h hn hm h0 h1⟩, fun w' hf => h.fr0 hf, fun he => ((fStep_facts d size).1 he).1⟩

/-- What take leaves for Fixed. -/
theorem fixed_take {p : Nat} {A : Option Addr} {c : Nat} {d : List UInt8} {size : Int} {w wa : World} {b0 b1 : Nat} (h : RdrV wa p A c d 0) (hn : d.length ≤ 100000000) (hm : -9223372036854775808 ≤ size ∧ size ≤ 9223372036854775807) (hfa : Fr0 w wa)
    (h0 : Blk wa b0 #[.int .i64 size] 3) (h1 : Blk wa b1 #[.pointer (some ⟨p, 0, none⟩)] 56) :
    Calls Try.prog 43 #[.pointer (some ⟨p, 0, none⟩), .func (.func 44) #[] #[.pointer (some ⟨b0, 0, none⟩), .pointer (some ⟨b1, 0, none⟩)]] wa fun x w2 =>
      ∃ Av cv l, x = .returned (.slice Av l.length cv) ∧ RdB w2 (.slice Av l.length cv) l ∧ l.length ≤ 8 ∧ fixVal l = (rFixed d 0 size).1 ∧ Fr1 p w w2 ∧ ∃ A' c', RdrV w2 p A' c' (rFixed d 0 size).2.1 (rFixed d 0 size).2.2 := by
  refine (wtake_any h (fixed1_step h hn hm h0 h1)).mono ?_
  rintro x w2 ⟨w1, v, rfl, hg, hf, k1, k2⟩
  obtain ⟨s1, s2⟩ := fStep_facts d size
  have hfull : Fr1 p w w2 := ((Fr1.of0 (hfa.trans hg)).trans hf)
  by_cases hk : (fStep d size).2 = 0
  · have e2 : rFixed d 0 size = (fixVal (d.take (fStep d size).1), d.drop (fStep d size).1, 0) := by unfold rFixed; rw [if_neg (by simp), if_neg (by simpa using hk)]
    obtain ⟨⟨A', c', h3⟩, rfl, h4, h5⟩ := k2 hk
    obtain ⟨j1, j2⟩ := s1 hk
    have hl : (d.take (fStep d size).1).length = (fStep d size).1 := by rw [List.length_take]; omega
    rw [e2]
    exact ⟨A, c, d.take (fStep d size).1, by rw [hl], by rw [hl]; exact h4, by omega, rfl, hfull, A', c', h3⟩
  · have e1 : rFixed d 0 size = (0, d, 4) := by unfold rFixed; rw [if_neg (by simp), if_pos hk]
    obtain ⟨rfl, h3⟩ := k1 hk
    rw [s2 hk] at h3
    rw [e1]
    exact ⟨none, 0, [], rfl, RdB.nil w2, by simp, rfl, hfull, A, c, h3⟩

set_option maxHeartbeats 400000 in
set_option maxRecDepth 100000 in
theorem rfixed_any {p : Nat} {A : Option Addr} {c : Nat} {d : List UInt8} {e : Int} {size : Int} {w : World} (h : RdrV w p A c d e) (hn : d.length ≤ 100000000) (hm : -9223372036854775808 ≤ size ∧ size ≤ 9223372036854775807) :
    Calls Try.prog 29 #[.pointer (some ⟨p, 0, none⟩), .int .i64 size] w fun x w' => x = .returned (.int .u64 ((rFixed d e size).1 : Nat)) ∧ Fr1 p w w' ∧ ∃ A' c', RdrV w' p A' c' (rFixed d e size).2.1 (rFixed d e size).2.2 := by
  have H := Lib.hid h
  obtain ⟨wa, hwa⟩ : ∃ wa, wa = ((w.alloc (.cells #[.pointer (some ⟨p, 0, none⟩)] 56)).alloc (.cells #[.int .i64 size] 3)) := ⟨_, rfl⟩
  have hfa : Fr0 w wa := by rw [hwa]; exact ((Fr0.refl w).alloc _).alloc _
  have ha := h.fr0 hfa
  have b0 : Blk wa w.heap.size #[.pointer (some ⟨p, 0, none⟩)] 56 := by rw [hwa]; exact (Blk.new _ _ _).alloc _
  have b1 : Blk wa (w.heap.size + 1) #[.int .i64 size] 3 := by
    rw [hwa]; have := (Blk.new (w.alloc (.cells #[.pointer (some ⟨p, 0, none⟩)] 56)) #[.int .i64 size] 3)
    simpa using this
  have hT : Calls Try.prog 43 #[.pointer (some ⟨p, 0, none⟩), .func (.func 44) #[] #[.pointer (some ⟨w.heap.size + 1, 0, none⟩), .pointer (some ⟨w.heap.size, 0, none⟩)]] wa fun x w2 =>
      ∃ Av cv l, x = .returned (.slice Av l.length cv) ∧ RdB w2 (.slice Av l.length cv) l ∧ l.length ≤ 8 ∧ fixVal l = (rFixed d e size).1 ∧ Fr1 p w w2 ∧ ∃ A' c', RdrV w2 p A' c' (rFixed d e size).2.1 (rFixed d e size).2.2 := by
    by_cases he : e = 0
    · subst he; exact fixed_take ha hn hm hfa b1 b0
    · have e1 : rFixed d e size = (0, d, e) := by unfold rFixed; rw [if_pos he]
      refine (take_err ha he _).mono ?_
      rintro x w2 ⟨rfl, rfl⟩
      rw [e1]
      exact ⟨none, 0, [], rfl, RdB.nil _, by simp, rfl, Fr1.of0 hfa, A, c, ha⟩
  have HT := Lib.hid hT
  obtain ⟨R, hR⟩ : ∃ R, R = rFixed d e size := ⟨_, rfl⟩
  rw [← hR] at HT ⊢
  clear hT b0 b1 ha hfa h hR H
  subst hwa
  go_enter Try.func29, Try.ntmps29
  go_wp2_with (go_at_call 43; refine (HT.out).mono ?_; rintro x w2 ⟨Av, cv, l, rfl, hrd, hl8, hfv, hf, hA⟩; have F := Lib.hid hf; have HA := Lib.hid hA; have FV := Lib.hid hfv; clear hf hA hfv)
  go_loopw [5, 12] (fun v5 v12 wr => wr = w2 ∧ ∃ (i n : Nat), v5 = .int .u64 (n : Int) ∧ v12 = .int .i64 (i : Int) ∧ i ≤ l.length ∧ n = fixVal (l.take i)) (fun _ v12 _ => l.length - (intOf v12).toNat)
  case atStart => exact ⟨rfl, 0, 0, rfl, rfl, by omega, by simp [fixVal]⟩
  case round =>
    obtain ⟨rfl, i, n, rfl, rfl, hiW, hr⟩ := hrel
    by_cases hlt : i < l.length
    · obtain ⟨g, off, c', hv, hic, hg, hc⟩ := hrd.cell hlt
      injection hv with hA _ hcc
      subst hA hcc
      have hn7 : n ≤ 72057594037927935 := by
        have := fixVal_lt (l.take i)
        rw [← hr, List.length_take] at this
        have h7 : min i l.length ≤ 7 := by omega
        have := Nat.pow_le_pow_right (show 0 < 256 by omega) h7
        omega
      obtain ⟨x, hx⟩ : ∃ x, x = l[i] := ⟨_, rfl⟩
      have hr2 : n * 256 + x.toNat = fixVal (l.take (i + 1)) := by rw [hr, hx, ← fixVal_snoc]; simp
      rw [← hx] at hc
      obtain ⟨y, hy⟩ : ∃ y, y = x.toNat := ⟨_, rfl⟩
      have hxl : x.toNat < 256 := x.toNat_lt
      rw [← hy] at hxl hc hr2
      have H := Lib.hid hrd
      have Hr := Lib.hid hr2
      have ei : wr.cell? ⟨g, off + i, none⟩ = some (.int .u8 (y : Int)) := hc
      clear hrd hr hr2 hc hx hy
      have eo := or8 n y hn7 hxl
      have es : (n : Int) * 256 % 18446744073709551616 = (n : Int) * 256 := by omega
      have ey : (y : Int) % 18446744073709551616 = (y : Int) := by omega
      have ew : IntKind.u64.wrap ((n : Int) * 256) = (n : Int) * 256 := by show (n : Int) * 256 % 18446744073709551616 = _; omega
      have ew2 : IntKind.u64.wrap (y : Int) = (y : Int) := by show (y : Int) % 18446744073709551616 = _; omega
      go_wp2_with fail
      go_roundw
      case rel => exact ⟨trivial, i + 1, n * 256 + y, by go_num, by go_num, by omega, Hr.out⟩
      case measure => simp [intOf]; omega
    · have e : i = l.length := by omega
      subst e
      rw [List.take_length] at hr
      have Hr := Lib.hid hr
      clear hr
      go_wp2_with fail
      go_ret
      obtain ⟨A', c', h3⟩ := HA.out
      rw [Hr.out, FV.out]
      exact ⟨rfl, F.out, A', c', h3⟩
end Go.Proofs.Ytpmindbipclphaa
namespace Go.Proofs.Ytpmindbipclphaa
open Go.RowKit
theorem sumP1 {W : World} {g : Nat} {v1 : Value} {d1 : List UInt8} (h1 : RdB W v1 d1) (hl : d1.length ≤ 900000) (hb : Blk W g #[v1] 35) : Calls Try.prog 38 #[.slice (some ⟨g, 0, none⟩) 1 1] W fun e w' => e = .returned (.agg (byts (shaN d1)).toArray) ∧ Fr0 W w' := by
  have h := sum_any (w := W) (lv := .slice (some ⟨g, 0, none⟩) 1 1) (ds := [d1]) (vs := [v1])
    ⟨rfl, ⟨_, _, rfl, by simp, by unfold maxLen; simp, fun h => by cases h⟩, fun _ => ⟨g, 0, 1, _, _, _, rfl, hb, fun j u hu => by simpa using hu⟩⟩
    (fun i hi => by
      simp at hi
      subst hi
      exact ⟨v1, rfl, h1⟩)
  have h3 := h (by simpa using hl)
  rw [show ([d1] : List (List UInt8)).flatten = d1 from by simp] at h3
  exact h3
theorem sumP3 {W : World} {g : Nat} {v1 v2 v3 : Value} {d1 d2 d3 : List UInt8} (h1 : RdB W v1 d1) (h2 : RdB W v2 d2) (h3 : RdB W v3 d3) (hl : d1.length + d2.length + d3.length ≤ 900000) (hb : Blk W g #[v1, v2, v3] 35) : Calls Try.prog 38 #[.slice (some ⟨g, 0, none⟩) 3 3] W fun e w' => e = .returned (.agg (byts (shaN (d1 ++ (d2 ++ d3)))).toArray) ∧ Fr0 W w' := by
  have h := sum_any (w := W) (lv := .slice (some ⟨g, 0, none⟩) 3 3) (ds := [d1, d2, d3]) (vs := [v1, v2, v3])
    ⟨rfl, ⟨_, _, rfl, by simp, by unfold maxLen; simp, fun h => by cases h⟩, fun _ => ⟨g, 0, 3, _, _, _, rfl, hb, fun j u hu => by simpa using hu⟩⟩
    (fun i hi => by
      simp at hi
      rcases (by omega : i = 0 ∨ i = 1 ∨ i = 2) with rfl | rfl | rfl
      · exact ⟨v1, rfl, h1⟩
      · exact ⟨v2, rfl, h2⟩
      · exact ⟨v3, rfl, h3⟩)
  have h4 := h (by simp; omega)
  rw [show ([d1, d2, d3] : List (List UInt8)).flatten = d1 ++ (d2 ++ d3) from by simp] at h4
  exact h4
theorem u8_size (w : World) : (sizeOf 5).run Try.prog w = .ok 1 w := by
  obtain ⟨i, hi, _, hz1, _⟩ := info_parts infoB
  simp [sizeOf, typeInfo, hi, hz1]
/-- 'v[:h]', of a slice that has room. -/
theorem part_h (w : World) (A : Option Addr) (n c h : Nat) (hh : h ≤ c) : (Instr.slice 35 (.slice A n c) none (some (.int .i64 (h : Int))) none).run Try.prog w = .ok (.slice A h c) w := by
  have ht := Try.underlying35
  have hel : Try.prog.elem 35 = 5 := by simp [Program.elem, ht]
  rw [run_slice_h (w := w) 35 A n c (by rw [hel]; exact ht) .i64 (h : Int) (by omega) (by omega), hel, u8_size]
  show Result.ok (sliced A 0 (h : Int).toNat c 1) w = _
  unfold sliced
  have hA : A.map (·.add (0 * 1)) = A := by cases A <;> simp [Addr.add]
  rw [hA, ite_self, Int.toNat_natCast, Nat.sub_zero, Nat.sub_zero]
/-- 'v[l:h]', its value under a name. -/
theorem part_lh {w : World} {A : Option Addr} {c l h : Nat} {d : List UInt8} (hr : RdB w (.slice A d.length c) d) (hl : l ≤ h) (hh : h ≤ d.length) :
    ∃ A' n' c', (∀ W, (Instr.slice 35 (.slice A d.length c) (some (.int .i64 (l : Int))) (some (.int .i64 (h : Int))) none).run Try.prog W = .ok (.slice A' n' c') W) ∧ RdB w (.slice A' n' c') ((d.take h).drop l) := by
  have ht := Try.underlying35
  have hel : Try.prog.elem 35 = 5 := by simp [Program.elem, ht]
  have hc : d.length ≤ c := by
    obtain ⟨A', c', hv, hm, _⟩ := hr.form
    injection hv with _ _ hc
    omega
  refine ⟨if c = l then A else A.map (·.add l), h - l, c - l, fun W => ?_, ?_⟩
  · rw [run_slice_lh (w := W) 35 A d.length c (by rw [hel]; exact ht) .i64 .i64 (l : Int) (h : Int) (by omega) (by omega) (by omega), hel, u8_size]
    show Result.ok (sliced A (l : Int).toNat (h : Int).toNat c 1) W = _
    unfold sliced
    rw [Int.toNat_natCast, Int.toNat_natCast, Nat.mul_one]
  · have h1 := RdB.take hr hh
    have hlen : (d.take h).length = h := by rw [List.length_take]; omega
    have h2 := RdB.drop (d := d.take h) (k := l) (by rw [hlen]; exact h1) (by omega)
    rw [hlen] at h2
    exact h2
end Go.Proofs.Ytpmindbipclphaa
set_option linter.unusedSimpArgs false
set_option linter.unusedVariables false
namespace Go.Proofs.Ytpmindbipclphaa
open Go.RowKit

theorem Blk.two_ty {w : World} {b : Nat} {vs vs' : Array Value} {t t' : TypeId} (h : Blk w b vs t) (h' : Blk w b vs' t') : t = t' := by
  have e := (show w.heap[b]? = _ from h).symm.trans h'
  injection e with e
  injection e
/-- The word that bytes begin with. -/
def wdL (hd : List UInt8) : Nat := (rFixed hd 0 8).1
theorem wdL_lt (hd : List UInt8) : wdL hd < 18446744073709551616 := by
  unfold wdL rFixed
  rw [if_neg (by simp)]
  split
  · show 0 < _; decide
  · refine Nat.lt_of_lt_of_le (fixVal_lt _) ?_
    have h : (hd.take (fStep hd 8).1).length ≤ 8 := by
      rename_i h
      have := ((fStep_facts hd 8).1 (by simpa using h)).2
      rw [List.length_take]; omega
    exact Nat.pow_le_pow_right (by decide) h
/-- What Open answers: nonce, text, error. -/
def openP (code mark b : List UInt8) : (Bool × Nat) × List UInt8 × Int :=
  if b.length < 24 ∨ 1224 < b.length then ((false, 0), [], 4)
  else if b.drop (b.length - 16) = tagL mark (b.take (b.length - 16)) then ((ofD (wdL (b.take (b.length - 16))), ofN (wdL (b.take (b.length - 16)))), tnL code (wdL (b.take (b.length - 16))) ((b.take (b.length - 16)).drop 8), 0)
  else ((false, 0), [], 60)
theorem slo_blk {base g n : Nat} {w : World} {d : List UInt8} (h : Blk w g (byts d).toArray 5) (hb : base ≤ g) (hn : d.length = n) (hm : n ≤ 100000) : SlO base w (.slice (some ⟨g, 0, none⟩) n n) d := by
  subst hn
  exact .inr ⟨g, 0, d.length, _, rfl, hb, h, by simp [byts], Nat.le_refl _, by unfold maxLen; omega, fun j u hu => by simpa using hu⟩
theorem open_ret {tmps : Array Value} {W : World} {g : Nat} {cs : Array Value} {u v : Value} (hg : Blk W g cs 24) (hs : cs.size = 2) (h2 : tmps.getD 4 undef = .pointer (some ⟨g, 0, none⟩)) (h3 : tmps.getD 5 undef = u) (h4 : tmps.getD 6 undef = v) :
    (results Try.f16 tmps).run Try.prog W = .ok (.tuple #[.agg cs, u, v]) W := by
  have hr : Try.f16.results = #[.cell 4 24, .tmp 5, .tmp 6] := rfl
  have hl := run_loadVar_row (P := Try.prog) W g 24 24 cs (0, 0) _ hg Try.underlying24 rfl (by rw [hs]; kernel_rfl)
  simp only [results, hr]
  rw [Array.getD_eq_getD_getElem?] at h2 h3 h4
  simp [Sem.run_bind, Result.andThen, h2, h3, h4, asAddr, hl]
set_option maxHeartbeats 4000000 in
set_option maxRecDepth 10000 in
theorem open_bad {code mark b : List UInt8} {v : Value} {w : World} (hb : RdB w v b) (h : b.length < 24 ∨ 1224 < b.length) :
    Calls Try.prog 16 #[.agg (byts (code ++ mark)).toArray, v] w fun e w' => e = .returned (.tuple #[nonceV false 0, .slice none 0 0, .int .i64 4]) ∧ Fr0 w w' := by
  have HP := Lib.hid (fun W (hf : Fr0 w W) => parts_bad (hb.fr0 hf) h)
  obtain ⟨ck, hck⟩ : ∃ c, c = (byts (code ++ mark)).toArray := ⟨_, rfl⟩
  rw [← hck]
  have F0 := Lib.hid (((Fr0.refl w).alloc (.cells ck 34)).alloc (.cells #[.bool false, .int .u64 0] 24))
  have Z0 := Blk.new (w.alloc (.cells ck 34)) #[.bool false, .int .u64 0] 24
  rw [World.size_alloc] at Z0
  have Z := Lib.hid Z0
  clear hck hb h Z0
  go_enter Try.func16, Try.ntmps16
  go_wp2_with (go_at_call 26; refine (HP.out _ F0.out).mono ?_; rintro e w3 ⟨rfl, rfl⟩)
  exact bodyPost_ret (v := .tuple #[nonceV false 0, .slice none 0 0, .int .i64 4]) (open_ret Z.out rfl rfl rfl rfl) rfl ⟨rfl, F0.out⟩
set_option maxHeartbeats 4000000 in
set_option maxRecDepth 10000 in
theorem open_good {code mark b : List UInt8} {v : Value} {w : World} (hc : code.length = 16) (hm : mark.length = 32) (hb : RdB w v b) (h : 24 ≤ b.length) (h2 : b.length ≤ 1224) :
    Calls Try.prog 16 #[.agg (byts (code ++ mark)).toArray, v] w fun e w' => ∃ v2, e = .returned (.tuple #[nonceV (openP code mark b).1.1 (openP code mark b).1.2, v2, .int .i64 (openP code mark b).2.2]) ∧ SlO w.heap.size w' v2 (openP code mark b).2.1 ∧ Fr0 w w' := by
  have HOP := Lib.hid (show openP code mark b = if b.drop (b.length - 16) = tagL mark (b.take (b.length - 16)) then ((ofD (wdL (b.take (b.length - 16))), ofN (wdL (b.take (b.length - 16)))), tnL code (wdL (b.take (b.length - 16))) ((b.take (b.length - 16)).drop 8), 0)
    else ((false, 0), [], 60) by unfold openP; rw [if_neg (by omega)])
  have HP0 := Lib.hid (fun W (hf : Fr0 w W) => parts_good (hb.fr0 hf) h h2)
  obtain ⟨k, hk⟩ : ∃ k, k = b.length - 16 := ⟨_, rfl⟩
  rw [← hk] at HOP HP0
  have hk8 : 8 ≤ k := by omega
  have hkl : (b.take k).length = k := by rw [List.length_take]; omega
  have hdl : (b.drop k).length = 16 := by rw [List.length_drop]; omega
  obtain ⟨hd, hhd⟩ : ∃ t, t = b.take k := ⟨_, rfl⟩
  obtain ⟨tg, htg⟩ : ∃ t, t = b.drop k := ⟨_, rfl⟩
  rw [← hhd] at hkl HOP HP0
  rw [← htg] at hdl HOP HP0
  have HP := Lib.hid (fun W (hf : Fr0 w W) => (HP0.out W hf).mono (R' := fun e w' => ∃ A1 c1 A2 c2, e = .returned (.tuple #[.slice A1 k c1, .slice A2 16 c2, .bool true]) ∧ RdB w' (.slice A1 k c1) hd ∧ RdB w' (.slice A2 16 c2) tg ∧ Fr0 W w') (by
    rintro e w' ⟨v1, v2, rfl, r1, r2, hf⟩
    obtain ⟨A1, c1, rfl, -⟩ := r1.form
    obtain ⟨A2, c2, rfl, -⟩ := r2.form
    have r1' := r1.fr0 hf
    have r2' := r2.fr0 hf
    rw [hkl] at r1' ⊢
    rw [hdl] at r2' ⊢
    exact ⟨A1, c1, A2, c2, rfl, r1', r2', hf⟩))
  have hw := wdL_lt hd
  have HWO := Lib.hid (fun W v (hr : RdB W v hd) => open_any hr (by omega))
  have HMK := Lib.hid (fun W g (h : Blk W g (byts (code ++ mark)).toArray 34) => key_mark hc hm h)
  have HMO := Lib.hid (fun W g gk A c (hk : Blk W gk (byts (code ++ mark)).toArray 34) (ho : RdB W (.slice A k c) hd) (hb : Blk W g #[.slice A k c] 35) => mof_one (HMK.out W gk hk) (by omega) ho (by omega) hb)
  have HM16 := Lib.hid (fun W g (h : Blk W g (byts (macN mark hd)).toArray 32) => show RdB W (.slice (some ⟨g, 0, none⟩) 16 32) (tagL mark hd) from mac16 (macN_len mark hd) h)
  have HMS := Lib.hid (fun W va vb (h1 : RdB W va tg) (h2 : RdB W vb (tagL mark hd)) => msame_any h1 h2)
  have HRF := Lib.hid (fun p A c W (h : RdrV W p A c hd 0) => rfixed_any h (show hd.length ≤ 100000000 by omega) (size := 8) (by omega))
  have HTN := Lib.hid (fun W v (hr : RdB W v (hd.drop 8)) => pturn_any hc hw hr (by rw [List.length_drop]; omega))
  have HOF := Lib.hid (fun W => nof_any (w := W) hw)
  have HSL := Lib.hid (fun W A c (hr : RdB W (.slice A hd.length c) hd) => slice_from (P := Try.prog) (T := 35) Try.underlying35 u8_size hr (show 8 ≤ hd.length by omega) (8 : Int) rfl)
  have HPI := Lib.hid (show (Try.prog.info? 31).map (·.size) = some (byts (((code ++ mark).drop 0).take 16)).length by rw [byts_len, List.drop_zero, List.length_take, List.length_append, hc, hm]; kernel_rfl)
  have HCD := Lib.hid (show ((code ++ mark).drop 0).take 16 = code by rw [List.drop_zero, ← hc, List.take_left])
  have HRUN := Lib.hid (fun W => z32_run W)
  have HIM := Lib.hid (dig_info (macN_len mark hd))
  have HZM := Lib.hid (z32_size (macN_len mark hd))
  have ham := byts_all (macN mark hd)
  have HWD := Lib.hid (show (rFixed hd 0 8).1 = wdL hd from rfl)
  rw [HWD.out] at HRF
  have K0 := Lib.hid ((Blk.new w (byts (code ++ mark)).toArray 34).alloc (.cells #[.bool false, .int .u64 0] 24))
  have F0 := Lib.hid (((Fr0.refl w).alloc (.cells (byts (code ++ mark)).toArray 34)).alloc (.cells #[.bool false, .int .u64 0] 24))
  have Z0 := Blk.new (w.alloc (.cells (byts (code ++ mark)).toArray 34)) #[.bool false, .int .u64 0] 24
  rw [World.size_alloc] at Z0
  replace Z0 := Lib.hid Z0
  rw [hkl] at HSL
  obtain ⟨wd, hwd⟩ : ∃ t, t = wdL hd := ⟨_, rfl⟩
  rw [← hwd] at HRF HTN HOF HOP hw
  obtain ⟨X, hX⟩ : ∃ t, t = hd.drop 8 := ⟨_, rfl⟩
  have HXL := Lib.hid (show X.length = k - 8 by rw [hX, List.length_drop, hkl])
  rw [← hX] at HTN HSL HOP
  rw [HXL.out] at HTN
  obtain ⟨k8, hk8⟩ : ∃ t, t = k - 8 := ⟨_, rfl⟩
  rw [← hk8] at HTN HSL HXL
  obtain ⟨TX, hTX⟩ : ∃ t, t = tnL code wd X := ⟨_, rfl⟩
  have HTL := Lib.hid (show TX.length = k8 by rw [hTX, tnL_len, HXL.out])
  rw [← hTX] at HTN HOP
  obtain ⟨tm, htm⟩ : ∃ t, t = tagL mark hd := ⟨_, rfl⟩
  rw [← htm] at HOP HM16 HMS
  obtain ⟨mc, hmc⟩ : ∃ t, t = (byts (macN mark hd)).toArray := ⟨_, rfl⟩
  rw [← hmc] at HMO HM16 HIM HZM ham
  obtain ⟨z, hz⟩ : ∃ z, z = z32A := ⟨_, rfl⟩
  rw [← hz] at HRUN HZM
  have HK9 := Lib.hid (show k8 ≤ 100000 by omega)
  by_cases he : tg = tm
  · rw [show sameB tg tm = true from decide_eq_true he] at HMS
    rw [if_pos he] at HOP
    rw [HOP.out]
    unfold nonceV at HOF ⊢
    clear hb h h2 hk hkl hdl hhd htg hw hwd hX hk8 hTX htm hmc hz he HP0 hc hm HMK HOP HWD
    go_enter Try.func16, Try.ntmps16
    go_upto_region 8 with (first
      | (have _q := R9; go_at_call 29; refine (HRF.out _ _ _ _ R9.out).mono ?_; rintro e w10 ⟨rfl, hf1, -⟩; have U10 := Lib.hid (Fr0.new U9.out hf1 (Nat.le_trans (U8.out).size P9.out)); clear hf1)
      | (have _q := U8; go_at_call 28; refine (HWO.out _ _ ((HD3.out).fr0 U8.out)).mono ?_; rintro e w9 ⟨p, v', rfl, hbk, hown, hf, hp⟩; obtain ⟨Ar, cr, rfl, -, -, -⟩ := own_form hown; have R9 := Lib.hid (show RdrV w9 p Ar cr hd 0 from ⟨hbk, RdB.of_own hown, TyB.of_own hown⟩); have U9 := Lib.hid (Fr0.trans U8.out hf); have P9 := Lib.hid hp; clear hbk hown hf hp)
      | (have _q := S7; go_at_call 27; refine (HMS.out _ _ _ ((TG3.out).fr0 U7.out) (HM16.out _ _ S7.out)).mono ?_; rintro e w8 ⟨rfl, hf⟩; have U8 := Lib.hid (Fr0.trans U7.out hf); clear hf)
      | (have _q := X6; refine list_store_blk rfl 32 _ _ rfl g10 mc rfl rfl 32 z X6.out HIM.out HZM.out ham ?_; intro w7 hB hF; have S7 := Lib.hid hB; have U7 := Lib.hid (Fr0.new U6.out hF (Nat.le_trans (U5.out).size L6.out)); clear hB hF)
      | (have _q := U5; refine list_alloc_blk rfl 32 rfl z HRUN.out ?_; intro g10 w6 hB hF hl; have X6 := Lib.hid hB; have U6 := Lib.hid (Fr0.trans U5.out hF); have L6 := Lib.hid hl; clear hB hF hl)
      | (go_at_call 23; refine (HMO.out _ _ _ _ _ ((K3.out).fr0 U4.out) ((HD3.out).fr0 U4.out) B4.out).mono ?_; rintro e w5 ⟨rfl, hf⟩; have U5 := Lib.hid (Fr0.trans U4.out hf); clear hf)
      | (have _q := K3; refine list_built_blk rfl 65 35 _ _ rfl #[.slice A1 k c1] (fun W => by go_simp; try rfl) ?_; intro gb w4 hB hF hl; have B4 := Lib.hid hB; have U4 := Lib.hid hF; clear hB hF hl)
      | (go_at_call 26; refine (HP.out _ F0.out).mono ?_; rintro e w3 ⟨A1, c1, A2, c2, rfl, r1, r2, hf⟩; have F3 := Lib.hid (Fr0.trans F0.out hf); have K3 := Lib.hid ((K0.out).fr0 hf); have Z3 := Lib.hid ((Z0.out).fr0 hf); have HD3 := Lib.hid r1; have TG3 := Lib.hid r2; clear r1 r2 hf))
    have FA := Lib.hid (Fr0.drew (Fr0.trans F3.out U10.out))
    have KA := Lib.hid (Blk.drew ((K3.out).fr0 U10.out))
    have ZA := Lib.hid (Blk.drew ((Z3.out).fr0 U10.out))
    have XA := (HD3.out).fr0 (Fr0.drew U10.out)
    obtain ⟨A3, hsl, hrx, -⟩ := HSL.out _ _ _ XA
    have RX := Lib.hid hrx
    clear hrx XA F3 U4 U5 U6 U7 U8 U9 U10 K3 Z3 K0 Z0 HD3 TG3 B4 X6 L6 S7 R9 P9 F0
    rw [← HCD.out] at HTN
    obtain ⟨gk, hgk⟩ : ∃ f, f = w.heap.size := ⟨_, rfl⟩
    rw [← hgk] at KA ZA ⊢
    have HGK := Lib.hid hgk
    clear hgk
    refine wp_region_held_drew (S := (fun W => Blk W gk (byts (code ++ mark)).toArray 34)) (by kernel_rfl) KA.out (fun hHeld => ?_)
    generalize w10.drew = wa at *
    have _hI : True := trivial
    clear _hI
    refine takeH (i := 0) rfl (by kernel_rfl) (by kernel_rfl) (by kernel_rfl) (fun _ _ _ h => h) (v := .int .u64 (wd : Int)) (.inl ⟨rfl, fun W hW => (by go_simp; try rfl)⟩) KA.out ?_
    try simp only [Act.put, List.setIfInBounds_toArray, List.set_cons_zero, List.set_cons_succ]
    have _hI : True := trivial
    clear _hI
    refine takeH (i := 2) rfl (by kernel_rfl) (by kernel_rfl) (by kernel_rfl) (fun _ _ _ h => h) (v := .pointer (some ⟨gk, 0, none⟩)) (.inl ⟨rfl, fun W hW => (by go_simp; try rfl)⟩) KA.out ?_
    try simp only [Act.put, List.setIfInBounds_toArray, List.set_cons_zero, List.set_cons_succ]
    have _hI : True := trivial
    clear _hI
    refine takeH (i := 3) rfl (by kernel_rfl) (by kernel_rfl) (by kernel_rfl) (fun _ _ _ h => h) (yields_load_part rfl 31 _ rfl gk 0 rfl 34 (code ++ mark) 16 (fun W hW => hW) _ Try.underlying31 rfl HPI.out) KA.out ?_
    try simp only [Act.put, List.setIfInBounds_toArray, List.set_cons_zero, List.set_cons_succ]
    have _hI : True := trivial
    clear _hI
    refine takeH (i := 4) rfl (by kernel_rfl) (by kernel_rfl) (by kernel_rfl) (fun _ _ _ h => h) (v := .int .u64 (wd : Int)) (.inl ⟨rfl, fun W hW => (by go_simp; try rfl)⟩) KA.out ?_
    try simp only [Act.put, List.setIfInBounds_toArray, List.set_cons_zero, List.set_cons_succ]
    have _hI : True := trivial
    clear _hI
    refine takeH (i := 5) rfl (by kernel_rfl) (by kernel_rfl) (by kernel_rfl) (fun _ _ _ h => h) (v := .slice A1 k c1) (.inl ⟨rfl, fun W hW => (by go_simp; try rfl)⟩) KA.out ?_
    try simp only [Act.put, List.setIfInBounds_toArray, List.set_cons_zero, List.set_cons_succ]
    have _hI : True := trivial
    clear _hI
    refine takeH (i := 6) rfl (by kernel_rfl) (by kernel_rfl) (by kernel_rfl) (fun _ _ _ h => h) (v := .slice A3 k8 (c1 - 8)) (.inl ⟨rfl, fun W hW => (by go_simp; try rfl)⟩) KA.out ?_
    try simp only [Act.put, List.setIfInBounds_toArray, List.set_cons_zero, List.set_cons_succ]
    have _hI : True := trivial
    clear _hI
    refine wpAnyH_ready (rs := [1]) (by kernel_rfl) (by simp) (consG rfl rfl (fun K hK => ?_) AllReadyH.nil)
    have _hI : True := trivial
    clear _hI
    go_simp
    refine (HOF.out _).mono ?_
    rintro e Wn ⟨rfl, hf⟩
    replace KA := Lib.hid ((KA.out).fr0 hf)
    replace ZA := Lib.hid ((ZA.out).fr0 hf)
    replace FA := Lib.hid (Fr0.trans FA.out hf)
    replace RX := Lib.hid ((RX.out).fr0 hf)
    clear hf
    refine hK.out _ _ KA.out ?_
    clear hK
    try simp only [Act.put, List.setIfInBounds_toArray, List.set_cons_zero, List.set_cons_succ]
    have _hI : True := trivial
    clear _hI
    refine wpAnyH_ready (rs := [7]) (by kernel_rfl) (by simp) (consG rfl rfl (fun K hK => ?_) AllReadyH.nil)
    have _hI : True := trivial
    clear _hI
    go_simp
    refine (HTN.out _ _ RX.out).mono ?_
    rintro e Wn ⟨gt, rfl, hb, hl, hf⟩
    have TB := Lib.hid hb
    have LG := Lib.hid (Nat.le_trans (FA.out).size hl)
    replace KA := Lib.hid ((KA.out).fr0 hf)
    replace ZA := Lib.hid ((ZA.out).fr0 hf)
    replace FA := Lib.hid (Fr0.trans FA.out hf)
    clear hb hl hf
    refine hK.out _ _ KA.out ?_
    clear hK
    try simp only [Act.put, List.setIfInBounds_toArray, List.set_cons_zero, List.set_cons_succ]
    have _hI : True := trivial
    clear _hI
    refine wpAnyH_ready (rs := [8]) (by kernel_rfl) (by simp) (consG rfl rfl (fun K hK => ?_) AllReadyH.nil)
    have _hI : True := trivial
    clear _hI
    refine wp_store_blk 24 _ _ rfl (gk + 1) #[.bool (ofD wd), .int .u64 (ofN wd : Int)] rfl rfl 24 #[.bool false, .int .u64 0] ZA.out (by kernel_rfl) rfl (by simp [Value.oneCell']) ?_
    intro Wn hB hF
    have ZO := Lib.hid ZA.out
    have KL := (ZA.out).lt
    replace KA := Lib.hid ((KA.out).fr1 hF (by omega))
    replace FA := Lib.hid (Fr0.new FA.out hF (by rw [← HGK.out]; exact Nat.le_succ _))
    have ZB := Lib.hid hB
    replace TB := Lib.hid ((TB.out).fr1 hF (fun e => absurd (Blk.two_ty (by have h := TB.out; rw [e] at h; exact h) ZO.out) (by decide)))
    clear hB hF KL
    refine hK.out _ _ KA.out ?_
    clear hK
    try simp only [Act.put, List.setIfInBounds_toArray, List.set_cons_zero, List.set_cons_succ]
    have _hI : True := trivial
    clear _hI
    refine takeH (i := 9) rfl (by kernel_rfl) (by kernel_rfl) (by kernel_rfl) (fun _ _ _ h => h) (v := .slice (some ⟨gt, 0, none⟩) k8 k8) (.inl ⟨rfl, fun W hW => (by go_simp; try rfl)⟩) KA.out ?_
    try simp only [Act.put, List.setIfInBounds_toArray, List.set_cons_zero, List.set_cons_succ]
    have _hI : True := trivial
    clear _hI
    refine takeH (i := 10) rfl (by kernel_rfl) (by kernel_rfl) (by kernel_rfl) (fun _ _ _ h => h) (v := .int .i64 0) (.inl ⟨rfl, fun W hW => (by go_simp; try rfl)⟩) KA.out ?_
    try simp only [Act.put, List.setIfInBounds_toArray, List.set_cons_zero, List.set_cons_succ]
    refine wpAnyH_done (by kernel_rfl) ?_ _
    go_wp2_with fail
    exact bodyPost_ret (v := .tuple #[.agg #[.bool (ofD wd), .int .u64 (ofN wd : Int)], .slice (some ⟨gt, 0, none⟩) k8 k8, .int .i64 0]) (open_ret ZB.out rfl rfl rfl rfl) rfl ⟨_, rfl, slo_blk TB.out LG.out HTL.out HK9.out, FA.out⟩
  · rw [show sameB tg tm = false from decide_eq_false he] at HMS
    rw [if_neg he] at HOP
    rw [HOP.out]
    unfold nonceV at HOF ⊢
    clear hb h h2 hk hkl hdl hhd htg hw hwd hX hk8 hTX htm hmc hz he HP0 hc hm HMK HOP HWD HRF HTN HOF HSL HWO
    go_enter Try.func16, Try.ntmps16
    go_upto_region 6 with (first
      | (have _q := S7; go_at_call 27; refine (HMS.out _ _ _ ((TG3.out).fr0 U7.out) (HM16.out _ _ S7.out)).mono ?_; rintro e w8 ⟨rfl, hf⟩; have U8 := Lib.hid (Fr0.trans U7.out hf); clear hf)
      | (have _q := X6; refine list_store_blk rfl 32 _ _ rfl g10 mc rfl rfl 32 z X6.out HIM.out HZM.out ham ?_; intro w7 hB hF; have S7 := Lib.hid hB; have U7 := Lib.hid (Fr0.new U6.out hF (Nat.le_trans (U5.out).size L6.out)); clear hB hF)
      | (have _q := U5; refine list_alloc_blk rfl 32 rfl z HRUN.out ?_; intro g10 w6 hB hF hl; have X6 := Lib.hid hB; have U6 := Lib.hid (Fr0.trans U5.out hF); have L6 := Lib.hid hl; clear hB hF hl)
      | (go_at_call 23; refine (HMO.out _ _ _ _ _ ((K3.out).fr0 U4.out) ((HD3.out).fr0 U4.out) B4.out).mono ?_; rintro e w5 ⟨rfl, hf⟩; have U5 := Lib.hid (Fr0.trans U4.out hf); clear hf)
      | (have _q := K3; refine list_built_blk rfl 65 35 _ _ rfl #[.slice A1 k c1] (fun W => by go_simp; try rfl) ?_; intro gb w4 hB hF hl; have B4 := Lib.hid hB; have U4 := Lib.hid hF; clear hB hF hl)
      | (go_at_call 26; refine (HP.out _ F0.out).mono ?_; rintro e w3 ⟨A1, c1, A2, c2, rfl, r1, r2, hf⟩; have F3 := Lib.hid (Fr0.trans F0.out hf); have K3 := Lib.hid ((K0.out).fr0 hf); have Z3 := Lib.hid ((Z0.out).fr0 hf); have HD3 := Lib.hid r1; have TG3 := Lib.hid r2; clear r1 r2 hf))
    have ZB := (Z3.out).fr0 U8.out
    have z0 := ZB.cell 0 rfl
    have z1 := ZB.cell 1 rfl
    have y0 := ZB.free 0
    have y1 := ZB.free 1
    have ZR := Lib.hid (show Blk ((w8.setCell ⟨w.heap.size + 1, 0, none⟩ (.bool false)).setCell ⟨w.heap.size + 1, 1, none⟩ (.int .u64 0)) (w.heap.size + 1) #[.bool false, .int .u64 0] 24 from (ZB.set 0 _).set 1 _)
    have FR := Lib.hid (Fr0.new (Fr0.trans F3.out U8.out) (((Fr1.refl (w.heap.size + 1) w8).set 0 (.bool false)).set 1 (.int .u64 0)) (Nat.le_succ _))
    clear ZB
    go_wp2_with fail
    exact bodyPost_ret (v := .tuple #[.agg #[.bool false, .int .u64 0], .slice none 0 0, .int .i64 60]) (open_ret ZR.out rfl rfl rfl rfl) rfl ⟨_, rfl, SlO.nil _ _, FR.out⟩
end Go.Proofs.Ytpmindbipclphaa
namespace Go.Proofs.Ytpmindbipclphaa

/-- Digits, the lowest first, as a number. -/
def val : List Nat → Nat
  | [] => 0
  | x :: r => x + 65536 * val r
def Dig (l : List Nat) : Prop := ∀ x ∈ l, x < 65536
theorem val_lt {l : List Nat} (h : Dig l) : val l < 65536 ^ l.length := by
  induction l with
  | nil => simp [val]
  | cons x r ih =>
    have h1 := ih (fun y hy => h y (List.mem_cons_of_mem _ hy))
    have h2 := h x (List.mem_cons_self ..)
    simp only [val, List.length_cons, Nat.pow_succ]
    omega
theorem val_app (a b : List Nat) : val (a ++ b) = val a + 65536 ^ a.length * val b := by
  induction a with
  | nil => simp [val]
  | cons x r ih =>
    simp only [List.cons_append, val, ih, List.length_cons, Nat.pow_succ]
    rw [Nat.mul_add, Nat.add_assoc, ← Nat.mul_assoc, Nat.mul_comm 65536 (65536 ^ r.length)]
theorem val_zeros (n : Nat) : val (List.replicate n 0) = 0 := by
  induction n with
  | zero => rfl
  | succ n ih => simp [List.replicate_succ, val, ih]
theorem val_set (l : List Nat) : ∀ (i x : Nat), i < l.length → val (l.set i x) + 65536 ^ i * l.getD i 0 = val l + 65536 ^ i * x := by
  induction l with
  | nil => intro i x h; simp at h
  | cons y r ih =>
    intro i x h
    cases i with
    | zero => simp [val]; omega
    | succ i =>
      have h1 := ih i x (by simpa using h)
      simp only [List.set_cons_succ, val, List.getD_cons_succ, Nat.pow_succ]
      rw [Nat.mul_comm (65536 ^ i) 65536, Nat.mul_assoc, Nat.mul_assoc]
      omega
theorem val_take {l : List Nat} {k : Nat} (h : k < l.length) : val (l.take (k + 1)) = val (l.take k) + 65536 ^ k * l.getD k 0 := by
  rw [List.take_succ_eq_append_getElem h, val_app, List.length_take, Nat.min_eq_left (by omega), show l.getD k 0 = l[k] from by simp [List.getD, h]]
  simp [val]
theorem dig_set {l : List Nat} (h : Dig l) (i : Nat) {x : Nat} (hx : x < 65536) : Dig (l.set i x) := fun y hy => by
  rcases List.mem_or_eq_of_mem_set hy with h1 | h1
  · exact h y h1
  · rw [h1]; exact hx
theorem dig_getD {l : List Nat} (h : Dig l) (i : Nat) : l.getD i 0 < 65536 := by
  rcases Nat.lt_or_ge i l.length with h1 | h1
  · rw [show l.getD i 0 = l[i] from by simp [List.getD, h1]]; exact h _ (List.getElem_mem h1)
  · rw [show l.getD i 0 = 0 from by simp [List.getD, h1]]; decide
theorem dig_zeros (n : Nat) : Dig (List.replicate n 0) := fun x hx => by rw [List.eq_of_mem_replicate hx]; decide
/-- A step of the inner loop. -/
theorem times_step {P V A c Lk s v v' t : Nat} (h : v + c * P = V + A) (hs : s = Lk + c + t) (hv : v' + P * Lk = v + P * (s % 65536)) : v' + s / 65536 * (P * 65536) = V + (A + P * t) := by
  have e : P * (s % 65536) + s / 65536 * (P * 65536) = P * s := by
    have := Nat.div_add_mod s 65536
    calc P * (s % 65536) + s / 65536 * (P * 65536) = P * (65536 * (s / 65536) + s % 65536) := by rw [Nat.mul_add, Nat.mul_left_comm, Nat.mul_comm (s / 65536)]; omega
      _ = P * s := by rw [this]
  have e2 : P * s = P * Lk + c * P + P * t := by rw [hs, Nat.mul_add, Nat.mul_add, Nat.mul_comm c P]
  omega
/-- Where something is carried still there is room. -/
theorem times_room {v c i k lb : Nat} (h : v + c * 65536 ^ (i + k) < 65536 ^ (i + 1 + lb)) (hc : 0 < c) : i + k < i + 1 + lb := by
  have h1 : 65536 ^ (i + k) ≤ c * 65536 ^ (i + k) := Nat.le_mul_of_pos_left _ hc
  have h2 : 65536 ^ (i + k) < 65536 ^ (i + 1 + lb) := by omega
  exact (Nat.pow_lt_pow_iff_right (by decide)).1 h2
theorem times_tot {a b : List Nat} {i : Nat} (ha : Dig a) (hb : Dig b) (hi : i < a.length) : val (a.take i) * val b + a.getD i 0 * 65536 ^ i * val b = val (a.take (i + 1)) * val b ∧ val (a.take (i + 1)) * val b < 65536 ^ (i + 1 + b.length) := by
  have h1 := val_take hi
  refine ⟨by rw [h1, Nat.add_mul, Nat.mul_comm (65536 ^ i)], ?_⟩
  have h2 : val (a.take (i + 1)) < 65536 ^ (i + 1) := by
    have h := val_lt (l := a.take (i + 1)) (fun x hx => ha x (List.mem_of_mem_take hx))
    rw [List.length_take, Nat.min_eq_left (by omega)] at h
    exact h
  have h3 := val_lt hb
  rw [Nat.pow_add]
  exact Nat.mul_lt_mul'' h2 h3
/-- The first n digits as a number. -/
def vd (l : List Nat) : Nat → Nat
  | 0 => 0
  | n + 1 => vd l n + 65536 ^ n * l.getD n 0
theorem vd_lt {l : List Nat} (h : Dig l) : ∀ n, vd l n < 65536 ^ n := by
  intro n
  induction n with
  | zero => simp [vd]
  | succ n ih =>
    have h1 := dig_getD h n
    have h2 : 65536 ^ n * l.getD n 0 ≤ 65536 ^ n * 65535 := Nat.mul_le_mul_left _ (by omega)
    simp only [vd, Nat.pow_succ]
    omega
theorem vd_take (l : List Nat) : ∀ n, vd l n = val (l.take n) := by
  intro n
  induction n with
  | zero => simp [vd, val]
  | succ n ih =>
    rcases Nat.lt_or_ge n l.length with h | h
    · rw [vd, ih, val_take h]
    · rw [vd, ih, show l.getD n 0 = 0 from by simp [List.getD, h], Nat.mul_zero, Nat.add_zero, List.take_of_length_le h, List.take_of_length_le (by omega)]
theorem vd_val {l : List Nat} {n : Nat} (h : l.length ≤ n) : vd l n = val l := by rw [vd_take, List.take_of_length_le h]
theorem vd_above {a b : List Nat} {i : Nat} : ∀ n, i ≤ n → (∀ j, i ≤ j → j < n → a.getD j 0 = b.getD j 0) → vd a n + vd b i = vd b n + vd a i := by
  intro n
  induction n with
  | zero => intro h _; obtain rfl : i = 0 := by omega
            rfl
  | succ n ih =>
    intro h hj
    rcases Nat.lt_or_ge n i with h1 | h1
    · obtain rfl : i = n + 1 := by omega
      omega
    · have h2 := ih h1 (fun j h3 h4 => hj j h3 (by omega))
      have h3 := hj n h1 (by omega)
      simp only [vd, h3]
      omega
/-- Which of two is greater is told by the highest digit in which they differ. -/
theorem val_gt {a b : List Nat} (hb : Dig b) {i n : Nat} (hi : i < n) (la : a.length ≤ n) (lb : b.length ≤ n) (hj : ∀ j, i + 1 ≤ j → j < n → a.getD j 0 = b.getD j 0) (h : b.getD i 0 < a.getD i 0) : val b < val a := by
  have h1 := vd_above n (by omega) hj
  rw [vd_val la, vd_val lb] at h1
  have h2 := vd_lt hb i
  have h3 : 65536 ^ i * (b.getD i 0 + 1) ≤ 65536 ^ i * a.getD i 0 := Nat.mul_le_mul_left _ h
  rw [Nat.mul_add] at h3
  simp only [vd] at h1
  omega
theorem val_same {a b : List Nat} {n : Nat} (la : a.length ≤ n) (lb : b.length ≤ n) (hj : ∀ j, j < n → a.getD j 0 = b.getD j 0) : val a = val b := by
  have h1 := vd_above (i := 0) n (Nat.zero_le _) (fun j _ h => hj j h)
  rw [vd_val la, vd_val lb] at h1
  simpa [vd] using h1
def digs (n : Nat) : List Nat := [n % 65536, n / 65536 % 65536, n / 65536 / 65536 % 65536, n / 65536 / 65536 / 65536 % 65536]
theorem digs_val {n : Nat} (h : n < 18446744073709551616) : val (digs n) = n := by
  simp only [digs, val]
  omega
theorem digs_dig (n : Nat) : Dig (digs n) := fun x hx => by
  simp only [digs, List.mem_cons, List.not_mem_nil, or_false] at hx
  rcases hx with rfl | rfl | rfl | rfl <;> exact Nat.mod_lt _ (by decide)
end Go.Proofs.Ytpmindbipclphaa
namespace Go.Proofs.Ytpmindbipclphaa
open Go.RowKit

theorem run_append_rd {P : Program} {w0 w : World} (hf : Fr0 w0 w) (t ty e : TypeId) (i : TypeInfo) (z : Value) (size bytes : Nat) (ht : P.underlying t = some (.slice e)) (hi : P.info? e = some i) (hz : i.zero = some z)
    (hsize : i.size = size) (hby : i.bytes = bytes) (hzs : z.cells.size = size) (hsz : 0 < size) (v : Value) (n : Nat) (xs : List Value) (hown : w.ownsRow w0.heap.size e size v n xs)
    (v2 : Value) (m : Nat) (news : List Value) (hr : Rd w size v2 m news) (h1 : ∀ u ∈ news, u.oneCell' = true) (h63 : n + m ≤ maxLen) (hbytes : (n + m) * bytes ≤ 140737488355328) :
    ∃ A c w', (Builtin.append_ #[t, t] ty #[v, v2]).run P w = .ok (.slice A (n + m) c) w' ∧ w'.ownsRow w0.heap.size e size (.slice A (n + m) c) (n + m) (xs ++ news) ∧ Fr0 w0 w' := by
  obtain ⟨A, c, rfl, hnc, hcm, hnone⟩ := hr.form
  cases A with
  | some ad =>
    obtain ⟨v', w', hrun, hown', hgrow, -⟩ := run_append_own (P := P) w w0.heap.size t ty e i z size bytes ht hi hz hsize hby hzs hsz v n xs hown ad m c news hr.len hr.news h1 h63 hbytes hf.size
    obtain ⟨A', c', rfl, -, -, -⟩ := own_form hown'
    exact ⟨A', c', w', hrun, hown', Fr.grown hf hgrow (fun j hj => .inr (own_lt' hown j hj).1)⟩
  | none =>
    have hc : c = 0 := hnone rfl
    have hm : m = 0 := by omega
    subst hc hm
    have hnews : news = [] := List.eq_nil_of_length_eq_zero (by rw [hr.len]; omega)
    subst hnews
    have hrun := run_append_none (P := P) w w0.heap.size t t ty e e i ht ht hi v n xs (by rw [hsize]; exact hown) 0
    obtain ⟨A', c', rfl, -, -, -⟩ := own_form hown
    exact ⟨A', c', w, hrun, by simpa using hown, hf⟩
theorem step_append_rd {P : Program} {ops : Array Oper} {o : Oper} {a : Act} {K : Act → World → Prop} {Q : Exit → Act → World → Prop} {E : Prop} (hgd : o.guard = none) (s x : Operand) (t : TypeId)
    (ho : o.op = .call { callee := .builtin .append, args := #[s, x], argTypes := #[t, t] }) {w0 w : World} (hf : Fr0 w0 w) (e : TypeId) (i : TypeInfo) (z : Value) (size bytes : Nat) (ht : P.underlying t = some (.slice e)) (hi : P.info? e = some i) (hz : i.zero = some z)
    (hsize : i.size = size) (hby : i.bytes = bytes) (hzs : z.cells.size = size) (hsz : 0 < size) {v : Value} {n : Nat} {xs : List Value} (hown : w.ownsRow w0.heap.size e size v n xs) (hs : a.eval s = v)
    {v2 : Value} {m : Nat} {news : List Value} (hr : Rd w size v2 m news) (hx : a.eval x = v2) (h1 : ∀ u ∈ news, u.oneCell' = true) (h63 : n + m ≤ maxLen) (hbytes : (n + m) * bytes ≤ 140737488355328)
    (h : ∀ A c w', w'.ownsRow w0.heap.size e size (.slice A (n + m) c) (n + m) (xs ++ news) → Fr0 w0 w' → K (a.put o.dst (.slice A (n + m) c)) w') :
    if Region.wanted o (yielded ops a.tmps) = true then Oper.wp P o a w K Q else E := by
  have hw : Region.wanted o (yielded ops a.tmps) = true := by simp [Region.wanted, hgd]
  rw [if_pos hw]
  obtain ⟨A, c, w', hrun, hown', hf'⟩ := run_append_rd (P := P) hf t o.type e i z size bytes ht hi hz hsize hby hzs hsz v n xs hown v2 m news hr h1 h63 hbytes
  unfold Oper.wp execOp
  simp only [ho, resolve, invoke, builtin, Sem.run_bind, Sem.run_pure, Result.andThen_ok, List.map_toArray, List.map_cons, List.map_nil, hs, hx, hrun]
  exact h A c w' hown' hf'
theorem list_append_rd {P : Program} {ops : Array Oper} {rest : List Oper} {o : Oper} {a : Act} {Q : Exit → Act → World → Prop} (hgd : o.guard = none) (s x : Operand) (t : TypeId)
    (ho : o.op = .call { callee := .builtin .append, args := #[s, x], argTypes := #[t, t] }) {w0 w : World} (hf : Fr0 w0 w) (e : TypeId) (i : TypeInfo) (z : Value) (size bytes : Nat) (ht : P.underlying t = some (.slice e)) (hi : P.info? e = some i) (hz : i.zero = some z)
    (hsize : i.size = size) (hby : i.bytes = bytes) (hzs : z.cells.size = size) (hsz : 0 < size) {v : Value} {n : Nat} {xs : List Value} (hown : w.ownsRow w0.heap.size e size v n xs) (hs : a.eval s = v)
    {v2 : Value} {m : Nat} {news : List Value} (hr : Rd w size v2 m news) (hx : a.eval x = v2) (h1 : ∀ u ∈ news, u.oneCell' = true) (h63 : n + m ≤ maxLen) (hbytes : (n + m) * bytes ≤ 140737488355328)
    (h : ∀ A c w', w'.ownsRow w0.heap.size e size (.slice A (n + m) c) (n + m) (xs ++ news) → Fr0 w0 w' → wpList P ops Q rest (a.put o.dst (.slice A (n + m) c)) w') :
    wpList P ops Q (o :: rest) a w := by
  obtain ⟨A, c, w', hrun, hown', hf'⟩ := run_append_rd (P := P) hf t o.type e i z size bytes ht hi hz hsize hby hzs hsz v n xs hown v2 m news hr h1 h63 hbytes
  refine wpList_plain hgd fun K hK => ?_
  unfold Oper.wp execOp
  simp only [ho, resolve, invoke, builtin, Sem.run_bind, Sem.run_pure, Result.andThen_ok, List.map_toArray, List.map_cons, List.map_nil, hs, hx, hrun]
  exact hK _ _ (h A c w' hown' hf')
/-- A row of one element, built where the call stands. -/
theorem rd_one {w : World} {g : Nat} {cs : List Value} {t : TypeId} (h : Blk w g cs.toArray t) : Rd w cs.length (.slice (some ⟨g, 0, none⟩) 1 1) 1 cs :=
  ⟨by simp, ⟨_, _, rfl, Nat.le_refl _, by unfold maxLen; omega, fun h => by cases h⟩, fun _ => ⟨g, 0, 1, _, _, _, rfl, h, fun j u hu => by simpa using hu⟩⟩
theorem own_base {w : World} {base base' size n : Nat} {t : TypeId} {v : Value} {xs : List Value} (h : w.ownsRow base t size v n xs) (hb : base' ≤ base) : w.ownsRow base' t size v n xs := by
  refine ⟨h.1, ?_⟩
  rcases h.2 with h | ⟨g, cap, cur, hv, hg, rest⟩
  · exact .inl h
  · exact .inr ⟨g, cap, cur, hv, Nat.le_trans hb hg, rest⟩
end Go.Proofs.Ytpmindbipclphaa
set_option linter.unusedSimpArgs false
namespace Go.Proofs.Ytpmindbipclphaa
open Go.RowKit

def ucells (l : List Nat) : List Value := l.map fun (x : Nat) => Value.int .u64 (x : Int)
theorem ucells_len (l : List Nat) : (ucells l).length = l.length * 1 := by simp [ucells]
theorem ucells_one (l : List Nat) : ∀ u ∈ ucells l, u.oneCell' = true := fun u hu => by obtain ⟨x, _, rfl⟩ := List.mem_map.1 hu; rfl
theorem ucells_at (l : List Nat) (i : Nat) (h : i < l.length) : (ucells l)[i]? = some (.int .u64 ((l.getD i 0 : Nat) : Int)) := by
  rw [ucells, List.getElem?_map, show l[i]? = some (l.getD i 0) from by simp [List.getD, h]]
  rfl
theorem ucells_app (a b : List Nat) : ucells (a ++ b) = ucells a ++ ucells b := by simp [ucells]
/-- A slice reads as digits. -/
def RdU (w : World) (v : Value) (l : List Nat) : Prop := Rd w 1 v l.length (ucells l)
theorem RdU.fr0 {w w' : World} {v : Value} {l : List Nat} (h : RdU w v l) (hf : Fr0 w w') : RdU w' v l := Rd.fr0 h hf
theorem RdU.cell {w : World} {A : Option Addr} {n c : Nat} {l : List Nat} (h : RdU w (.slice A n c) l) {i : Nat} (hi : i < l.length) : ∃ g off, A = some ⟨g, off, none⟩ ∧ g < w.heap.size ∧ w.cell? ⟨g, off + i, none⟩ = some (.int .u64 ((l.getD i 0 : Nat) : Int)) := by
  obtain ⟨A', c', hv, -⟩ := Rd.form h
  have hn : n = l.length := by injection hv
  subst hn
  obtain ⟨g, off, hA, -, h1, h2⟩ := Rd.cellA h hi
  exact ⟨g, off, hA, h1, by have := h2 0 _ (by rw [Nat.mul_one, Nat.add_zero]; exact ucells_at l i hi); simpa using this⟩
theorem infoU64 : (Try.prog.info? 22).map (fun i => (i.zero, i.size, i.bytes)) = some (some (.int .u64 0), 1, 8) := by kernel_rfl
def digL (n : Nat) : Nat → List Nat
  | 0 => []
  | k + 1 => digL n k ++ [n / 65536 ^ k % 65536]
theorem digL_len (n : Nat) : ∀ k, (digL n k).length = k
  | 0 => rfl
  | k + 1 => by simp [digL, digL_len n k]
theorem digL_digs (n : Nat) : digL n 4 = digs n := by
  simp only [digL, digs, List.nil_append, List.cons_append, Nat.pow_zero, Nat.div_one, Nat.pow_succ, Nat.one_mul, Nat.div_div_eq_div_mul]
set_option maxHeartbeats 1000000 in
theorem digits_any (n : Nat) (w : World) (hn : n < 18446744073709551616) : Calls Try.prog 85 #[.int .u64 n] w fun e w' => ∃ v, e = .returned v ∧ RdU w' v (digs n) ∧ Fr0 w w' := by
  obtain ⟨i, hi, hz0, hz1, hz2⟩ := info_parts infoU64
  go_enter Try.func85, Try.ntmps85
  go_wp2_with fail
  go_loopw [0, 3, 4] (fun v0 v3 v4 wr => ∃ (k m : Nat) (A : Option Addr) (c : Nat), k ≤ 4 ∧ v4 = .int .i64 k ∧ v0 = .int .u64 m ∧ Hid (m = n / 65536 ^ k) ∧ m < 18446744073709551616 ∧ v3 = .slice A k c ∧ wr.ownsRow w.heap.size 22 1 (.slice A k c) k (ucells (digL n k)) ∧ Fr0 w wr) (fun _ _ v4 _ => 4 - (intOf v4).toNat)
  case atStart => exact ⟨0, n, none, 0, by omega, rfl, rfl, Lib.hid (by simp), hn, rfl, ⟨by simp [ucells, digL], .inl ⟨rfl, rfl⟩⟩, Fr0.refl _⟩
  case round =>
    obtain ⟨k, m, A, c, hk, rfl, rfl, hm, hml, rfl, ho, hf⟩ := hrel
    have O := Lib.hid ho
    have F := Lib.hid hf
    clear ho hf
    by_cases hlt : k < 4
    · have q1 : decide ((k : Int) < 4) = true := by simp; omega
      have B1 := Lib.hid (fun (d : Int) => Blk.new wr #[.int .u64 d] 22)
      have R1 := Lib.hid (fun (d : Int) => rd_one (cs := [.int .u64 d]) ((B1.out) d))
      have FA := Lib.hid (fun (d : Int) => (F.out).alloc (.cells #[.int .u64 d] 22))
      have OA := Lib.hid (fun (d : Int) => own_fr O.out ((Fr0.refl wr).alloc (.cells #[.int .u64 d] 22)) (fun _ _ h => h))
      have hmod : (m : Int) % 65536 = ((m % 65536 : Nat) : Int) := by omega
      have hdiv : (m : Int) / 65536 = ((m / 65536 : Nat) : Int) := by omega
      have e1 := Lib.hid (show m % 65536 = n / 65536 ^ k % 65536 by rw [hm.out])
      have e2 := Lib.hid (show m / 65536 = n / 65536 ^ (k + 1) by rw [hm.out, Nat.pow_succ, Nat.div_div_eq_div_mul])
      have e3 : m / 65536 < 18446744073709551616 := by omega
      obtain ⟨md, hmd⟩ : ∃ x, x = m % 65536 := ⟨_, rfl⟩
      obtain ⟨mq, hmq⟩ : ∃ x, x = m / 65536 := ⟨_, rfl⟩
      rw [← hmd] at hmod e1
      rw [← hmq] at hdiv e2 e3
      clear hmd hmq
      go_wp2_with (refine list_append_rd rfl _ _ 122 rfl ((FA.out) (md : Int)) 22 i _ 1 8 Try.underlying122 hi hz0 hz1 hz2 rfl (by decide) ((OA.out) (md : Int)) rfl ((R1.out) (md : Int)) rfl (fun u hu => by cases List.mem_singleton.1 hu; rfl) (by unfold maxLen; omega) (by omega) ?_; intro A2 c2 w2 ho2 hf2; have O2 := Lib.hid ho2; have F2 := Lib.hid hf2; clear ho2 hf2)
      go_roundw
      case measure => simp [intOf]; omega
      case rel =>
        have o2 := O2.out
        rw [show ucells (digL n k) ++ [Value.int .u64 (md : Int)] = ucells (digL n (k + 1)) by rw [digL, ucells_app, ← e1.out]; rfl] at o2
        exact ⟨k + 1, mq, A2, c2, by omega, by go_num, rfl, Lib.hid e2.out, e3, rfl, o2, F2.out⟩
    · obtain rfl : k = 4 := by omega
      have HE := Lib.hid (show RdU wr (.slice A 4 c) (digs n) by
        have h := Rd.of_own O.out
        rw [digL_digs] at h
        exact h)
      clear hlt hk hm hml
      go_wp2_with fail
      go_ret
      exact ⟨_, rfl, HE.out, F.out⟩
end Go.Proofs.Ytpmindbipclphaa
set_option linter.unusedSimpArgs false
namespace Go.Proofs.Ytpmindbipclphaa
open Go.RowKit

theorem list_make_u {ops : Array Oper} {rest : List Oper} {o : Oper} {a : Act} {w : World} {Q : Exit → Act → World → Prop} (hgd : o.guard = none) (x y : Operand) (ho : o.op = .makeSlice 122 x y) (n : Nat) (hx : a.eval x = .int .i64 (n : Int)) (hy : a.eval y = .int .i64 (n : Int)) (hn : n ≤ 1000)
    (h : ∀ g W1, Blk W1 g (ucells (List.replicate n 0)).toArray 22 → Fr0 w W1 → w.heap.size ≤ g → wpList Try.prog ops Q rest (a.put o.dst (.slice (some ⟨g, 0, none⟩) n n)) W1) : wpList Try.prog ops Q (o :: rest) a w := by
  obtain ⟨i, hi, hz0, hz1, hz2⟩ := info_parts infoU64
  have hr := run_make (P := Try.prog) w 122 22 i _ Try.underlying122 hi hz0 .i64 .i64 (n : Int) (n : Int) (by omega) (Int.le_refl _) (by rw [hz2]; omega) (by omega)
  rw [Int.toNat_natCast, hz1, Nat.mul_one] at hr
  refine wpList_plain hgd fun K hK => ?_
  unfold Oper.wp execOp
  simp only [ho, hx, hy, Sem.run_bind, hr, Result.andThen_ok]
  refine hK _ _ (h w.heap.size _ ?_ ((Fr0.refl w).alloc _) (Nat.le_refl _))
  have hb := Blk.new w (madeCells (Value.int .u64 0).cells n) 22
  rw [show (madeCells (Value.int .u64 0).cells n) = (ucells (List.replicate n 0)).toArray from by
    apply Array.toList_inj.1
    rw [show (Value.int .u64 0).cells = #[Value.int .u64 0] from rfl, toList_madeCells_one]
    simp [ucells]] at hb ⊢
  exact hb
theorem ucells_set (l : List Nat) (i x : Nat) : (ucells l).toArray.setIfInBounds i (.int .u64 (x : Int)) = (ucells (l.set i x)).toArray := by
  rw [List.setIfInBounds_toArray, ucells, ucells, List.map_set]
set_option maxHeartbeats 4000000 in
theorem stimes_any {a b : List Nat} {va vb : Value} {w : World} (ha : RdU w va a) (hb : RdU w vb b) (da : Dig a) (db : Dig b) (la : a.length ≤ 100) (lb : b.length ≤ 100) :
    Calls Try.prog 86 #[va, vb] w fun e w' => ∃ v out, e = .returned v ∧ RdU w' v out ∧ Dig out ∧ out.length = a.length + b.length + 1 ∧ val out = val a * val b ∧ Fr0 w w' := by
  obtain ⟨Aa, ca, rfl, -, -, -⟩ := Rd.form ha
  obtain ⟨Ab, cb, rfl, -, -, -⟩ := Rd.form hb
  have DA := Lib.hid da
  have DB := Lib.hid db
  obtain ⟨na, hna⟩ : ∃ n, n = a.length := ⟨_, rfl⟩
  obtain ⟨nb, hnb⟩ : ∃ n, n = b.length := ⟨_, rfl⟩
  rw [← hna] at la ha ⊢
  rw [← hnb] at lb hb ⊢
  have HA := Lib.hid ha
  have HB := Lib.hid hb
  have HNA := Lib.hid hna
  have HNB := Lib.hid hnb
  have HT0 := Lib.hid (fun i (hi : i < na) => times_tot da db (i := i) (by omega))
  clear ha hb da db hna hnb
  go_enter Try.func86, Try.ntmps86
  go_wp2_with (refine list_make_u rfl _ _ rfl (na + nb + 1) (by first | rfl | (simp [Act.eval, Act.put]; done) | (simp [Act.eval, Act.put]; omega)) (by first | rfl | (simp [Act.eval, Act.put]; done) | (simp [Act.eval, Act.put]; omega)) (by omega) ?_; intro g w1 hB hF hg; have B1 := Lib.hid hB; have F1 := Lib.hid hF; have G1 := Lib.hid hg; clear hB hF hg)
  have hg := G1.out
  go_loopw [6] (fun v6 wr => ∃ (i : Nat) (L : List Nat), i ≤ na ∧ v6 = .int .i64 i ∧ Blk wr g (ucells L).toArray 22 ∧ L.length = na + nb + 1 ∧ Hid (Dig L ∧ val L = val (a.take i) * val b) ∧ Fr0 w wr) (fun v6 _ => na - (intOf v6).toNat)
  case atStart => exact ⟨0, _, Nat.zero_le _, rfl, B1.out, by simp, Lib.hid ⟨dig_zeros _, by rw [val_zeros]; simp [val]⟩, F1.out⟩
  case round =>
    obtain ⟨i, L, hi, rfl, hB, hL, hD, hF⟩ := hrel
    by_cases hlt : i < na
    · have B := Lib.hid hB
      have F := Lib.hid hF
      obtain ⟨ga, oa, rfl, hgl, -⟩ := ((HA.out).fr0 hF).cell (i := i) (by rw [← HNA.out]; exact hlt)
      have HAC := Lib.hid (fun (W : World) (h : Fr0 w W) => show W.cell? ⟨ga, oa + i, none⟩ = some (.int .u64 ((a.getD i 0 : Nat) : Int)) from by
        obtain ⟨g', o', hA, -, hc⟩ := ((HA.out).fr0 h).cell (i := i) (by rw [← HNA.out]; exact hlt)
        injection hA with hA; injection hA with h1 h2; subst h1 h2; exact hc)
      have HT := Lib.hid ((HT0.out) i hlt)
      have al := dig_getD DA.out i
      have HIL := Lib.hid hlt
      obtain ⟨ai, hai⟩ : ∃ x, x = a.getD i 0 := ⟨_, rfl⟩
      rw [← hai] at HAC HT al
      have i0 : (0 : Int) ≤ (i : Int) := by omega
      have i1 : (i : Int) < (na : Int) := by omega
      have q1 : decide ((i : Int) < (na : Int)) = true := by simp; omega
      have q2 : decide (i < na) = true := by simpa using hlt
      clear hB hF hgl hai hlt
      obtain ⟨wo, hwo⟩ : ∃ wo : World, wo = wr := ⟨_, rfl⟩
      subst hwo
      go_wp2_with fail
      go_loopw [7, 8] (fun v7 v8 wr => ∃ (k c : Nat) (L : List Nat), v8 = .int .i64 k ∧ v7 = .int .u64 c ∧ c < 65536 ∧ k ≤ na + nb + 1 ∧ Blk wr g (ucells L).toArray 22 ∧ L.length = na + nb + 1 ∧ Hid (Dig L ∧ val L + c * 65536 ^ (i + k) = val (a.take i) * val b + ai * 65536 ^ i * val (b.take k)) ∧ Fr0 w wr) (fun _ v8 _ => na + nb + 2 - (intOf v8).toNat)
      case atStart => exact ⟨0, 0, L, rfl, rfl, by omega, by omega, B.out, hL, Lib.hid ⟨(hD.out).1, by simp [val]; exact (hD.out).2⟩, F.out⟩
      case round =>
        obtain ⟨k, c, L, rfl, rfl, hc, hk, hB, hL, hDV, hF⟩ := hrel
        have B := Lib.hid hB
        have F := Lib.hid hF
        obtain ⟨dL, hv⟩ := hDV.out
        have hcn : (0 : Int) ≤ (c : Int) := by omega
        have k0 : (0 : Int) ≤ (k : Int) := by omega
        have hiN := HIL.out
        have ll := dig_getD dL (i + k)
        have n1 : ((i : Int) + (k : Int)).toNat = i + k := by omega
        have DS := Lib.hid (fun (x : Nat) (hx : x < 65536) => dig_set dL (i + k) hx)
        by_cases hkb : k < nb
        · have hin : i + k < na + nb + 1 := by omega
          have x1 : (i : Int) + (k : Int) < ((na + nb + 1 : Nat) : Int) := by omega
          have x2 : (i : Int) + (k : Int) < (na : Int) + (nb : Int) + 1 := by omega
          have cl := hB.cell (i + k) (v := .int .u64 ((L.getD (i + k) 0 : Nat) : Int)) (by rw [List.getElem?_toArray]; exact ucells_at L (i + k) (by omega))
          have fz := hB.free (i + k)
          obtain ⟨lk, hlk⟩ : ∃ x, x = L.getD (i + k) 0 := ⟨_, rfl⟩
          rw [← hlk] at cl ll
          have HLK := Lib.hid hlk
          have q3 : decide ((k : Int) < (nb : Int)) = true := by simp; omega
          have q4 : decide (k < nb) = true := by simpa using hkb
          have k1 : (k : Int) < (nb : Int) := by omega
          obtain ⟨gb, ob, rfl, -, cb0⟩ := ((HB.out).fr0 hF).cell (i := k) (by rw [← HNB.out]; exact hkb)
          have ca0 := (HAC.out) _ hF
          have bl := dig_getD DB.out k
          have HBT := Lib.hid (val_take (l := b) (k := k) (by rw [← HNB.out]; exact hkb))
          obtain ⟨bk, hbk⟩ : ∃ x, x = b.getD k 0 := ⟨_, rfl⟩
          rw [← hbk] at cb0 bl HBT
          obtain ⟨mab, hmab⟩ : ∃ z, z = ai * bk := ⟨_, rfl⟩
          have emab : (ai : Int) * (bk : Int) = (mab : Int) := by rw [hmab]; exact (Int.natCast_mul ai bk).symm
          have HMAB := Lib.hid hmab
          have mabl : mab ≤ 4294836225 := by rw [hmab]; exact Nat.mul_le_mul (by omega : ai ≤ 65535) (by omega : bk ≤ 65535)
          obtain ⟨AIK, hAIK⟩ : ∃ z, z = ai * 65536 ^ i * val (b.take k) := ⟨_, rfl⟩
          rw [← hAIK] at hv
          have HAI := Lib.hid hAIK
          have HS := Lib.hid (times_step (P := 65536 ^ (i + k)) (V := val (a.take i) * val b) (A := AIK) (c := c) (Lk := lk) (s := (lk + c + ai * bk)) (v := val L) (v' := val (L.set (i + k) ((lk + c + ai * bk) % 65536))) (t := (ai * bk)) hv rfl (by have h := val_set L (i + k) ((lk + c + ai * bk) % 65536) (by omega); rw [← HLK.out] at h; exact h))
          have hs64 : (lk + c + ai * bk) < 4294967296 := by have hm : ai * bk ≤ 65535 * 65535 := Nat.mul_le_mul (by omega) (by omega)
                                                            omega
          obtain ⟨s, hs⟩ : ∃ s, s = (lk + c + ai * bk) := ⟨_, rfl⟩
          rw [← hs] at HS hs64
          have es : (lk : Int) + (c : Int) + (mab : Int) = (s : Int) := by rw [hs]; rw [HMAB.out]; omega
          have e1 : (s : Int) % 65536 = ((s % 65536 : Nat) : Int) := by omega
          have e2 : (s : Int) / 65536 = ((s / 65536 : Nat) : Int) := by omega
          have sq : s / 65536 < 65536 := by omega
          have sr : s % 65536 < 65536 := by omega
          obtain ⟨sm, hsm⟩ : ∃ z, z = s % 65536 := ⟨_, rfl⟩
          obtain ⟨sd, hsd⟩ : ∃ z, z = s / 65536 := ⟨_, rfl⟩
          rw [← hsm] at HS e1 sr
          rw [← hsd] at HS e2 sq
          have HEN := Lib.hid (show (L.set (i + k) sm).length = na + nb + 1 by rw [List.length_set]; exact hL)
          clear hB hF dL hv hlk hkb hbk hmab hAIK hs hsm hsd hL hDV
          go_wp2_with fail
          go_quiet (fail)
          go_wp2_with fail
          go_roundw
          case measure => simp [intOf]; omega
          case rel =>
            have h := ((B.out).drewN nq).set (i + k) (.int .u64 (sm : Int))
            rw [ucells_set] at h
            exact ⟨k + 1, sd, L.set (i + k) sm, by go_num, rfl, sq, by omega, h, HEN.out, Lib.hid ⟨(DS.out) sm sr, by
              rw [show i + (k + 1) = (i + k) + 1 from by omega, Nat.pow_succ, HS.out, HBT.out, Nat.mul_add, ← HAI.out, Nat.pow_add]
              congr 2
              simp only [Nat.mul_comm, Nat.mul_left_comm, Nat.mul_assoc]⟩, Fr.setCell (p := ⟨g, i + k, none⟩) ((F.out).drewN nq) (.inr hg) _⟩
        · have HTB := Lib.hid (show b.take k = b ∧ b.take (k + 1) = b from ⟨List.take_of_length_le (by rw [← HNB.out]; omega), List.take_of_length_le (by rw [← HNB.out]; omega)⟩)
          have q3 : decide ((k : Int) < (nb : Int)) = false := by simp; omega
          have q4 : decide (k < nb) = false := by simpa using hkb
          by_cases hc0 : 0 < c
          · have hroom : i + k < i + 1 + nb := by
              have h1 := hv
              rw [(HTB.out).1, (HT.out).1] at h1
              have h2 := (HT.out).2
              rw [← HNB.out] at h2
              exact times_room (by rw [h1]; exact h2) hc0
            have hin : i + k < na + nb + 1 := by omega
            have x1 : (i : Int) + (k : Int) < ((na + nb + 1 : Nat) : Int) := by omega
            have x2 : (i : Int) + (k : Int) < (na : Int) + (nb : Int) + 1 := by omega
            have cl := hB.cell (i + k) (v := .int .u64 ((L.getD (i + k) 0 : Nat) : Int)) (by rw [List.getElem?_toArray]; exact ucells_at L (i + k) (by omega))
            have fz := hB.free (i + k)
            obtain ⟨lk, hlk⟩ : ∃ x, x = L.getD (i + k) 0 := ⟨_, rfl⟩
            rw [← hlk] at cl ll
            have HLK := Lib.hid hlk
            have q5 : decide (0 < (c : Int)) = true := by simp; omega
            have q6 : decide (0 < c) = true := by simpa using hc0
            obtain ⟨AIK, hAIK⟩ : ∃ z, z = ai * 65536 ^ i * val (b.take k) := ⟨_, rfl⟩
            rw [← hAIK] at hv
            have HAI := Lib.hid hAIK
            have HS := Lib.hid (times_step (P := 65536 ^ (i + k)) (V := val (a.take i) * val b) (A := AIK) (c := c) (Lk := lk) (s := lk + c + 0) (v := val L) (v' := val (L.set (i + k) ((lk + c + 0) % 65536))) (t := 0) hv rfl (by have h := val_set L (i + k) ((lk + c + 0) % 65536) (by omega); rw [← HLK.out] at h; exact h))
            have hs64 : lk + c + 0 < 4294967296 := by omega
            obtain ⟨s, hs⟩ : ∃ s, s = lk + c + 0 := ⟨_, rfl⟩
            rw [← hs] at HS hs64
            have es : (lk : Int) + (c : Int) = (s : Int) := by rw [hs]; omega
            have e1 : (s : Int) % 65536 = ((s % 65536 : Nat) : Int) := by omega
            have e2 : (s : Int) / 65536 = ((s / 65536 : Nat) : Int) := by omega
            have sq : s / 65536 < 65536 := by omega
            have sr : s % 65536 < 65536 := by omega
            obtain ⟨sm, hsm⟩ : ∃ z, z = s % 65536 := ⟨_, rfl⟩
            obtain ⟨sd, hsd⟩ : ∃ z, z = s / 65536 := ⟨_, rfl⟩
            rw [← hsm] at HS e1 sr
            rw [← hsd] at HS e2 sq
            have HEN := Lib.hid (show (L.set (i + k) sm).length = na + nb + 1 by rw [List.length_set]; exact hL)
            clear hB hF dL hv hlk hkb hAIK hs hsm hsd hL hDV hc0
            go_wp2_with fail
            go_roundw
            case measure => simp [intOf]; omega
            case rel =>
              have h := (B.out).set (i + k) (.int .u64 (sm : Int))
              rw [ucells_set] at h
              exact ⟨k + 1, sd, L.set (i + k) sm, by go_num, rfl, sq, by omega, h, HEN.out, Lib.hid ⟨(DS.out) sm sr, by
              rw [show i + (k + 1) = (i + k) + 1 from by omega, Nat.pow_succ, HS.out, Nat.mul_zero, Nat.add_zero, HAI.out, (HTB.out).1, (HTB.out).2]⟩, Fr.setCell (p := ⟨g, i + k, none⟩) F.out (.inr hg) _⟩
          · obtain rfl : c = 0 := by omega
            have q5 : decide ((0 : Int) < 0) = false := by simp
            have HV2 := Lib.hid (show val L = val (a.take (i + 1)) * val b by
              have h1 := hv
              rw [(HTB.out).1, (HT.out).1, Nat.zero_mul, Nat.add_zero] at h1
              exact h1)
            have DL := Lib.hid dL
            have HLL := Lib.hid hL
            have K2 := Lib.hid hkb
            clear hB hF dL hv hkb hL hDV hc0
            go_wp2_with fail
            go_roundw
            case measure => simp [intOf]; omega
            case rel => exact ⟨i + 1, L, by omega, by go_num, B.out, HLL.out, Lib.hid ⟨DL.out, HV2.out⟩, F.out⟩
    · obtain rfl : i = na := by omega
      have q1 : decide ((i : Int) < (i : Int)) = false := by simp
      have HRU := Lib.hid (show RdU wr (.slice (some ⟨g, 0, none⟩) (i + nb + 1) (i + nb + 1)) L from by
        unfold RdU
        rw [hL]
        exact ⟨by rw [ucells_len, hL], ⟨_, _, rfl, Nat.le_refl _, by unfold maxLen; omega, fun h => by cases h⟩, fun _ => ⟨g, 0, _, _, _, _, rfl, hB, fun j u hu => by simpa using hu⟩⟩)
      have HV := Lib.hid (show val L = val a * val b by have h := (hD.out).2; rw [List.take_of_length_le (by rw [← HNA.out]; omega)] at h; exact h)
      have F := Lib.hid hF
      have DL := Lib.hid (hD.out).1
      have HLL := Lib.hid hL
      clear hB hF hL hD hlt
      go_wp2_with fail
      go_ret
      exact ⟨_, L, rfl, HRU.out, DL.out, HLL.out, HV.out, F.out⟩
end Go.Proofs.Ytpmindbipclphaa
