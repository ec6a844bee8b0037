/- The sender's state: what it tells, if it is due. Conditions stand in the statements. -/
import Derived.Test.YtomdlfeaecknfaaOut4
import Derived.Test.YtomdlfeaecknfaaOutLaw2
import Derived.Test.YtomdlfeaecknfaaAppStep
import Derived.Laws.ResultCell
import Derived.Deep.DeepCutAuto
import Derived.Deep.AppendLies
import Derived.Deep.RegionLaw
namespace Go.Proofs.Ytomdlfeaecknfaa
open Go.RowKit

theorem oret_state {tmps : Array Value} {W : World} {g : Nat} {cs : Array Value} {u : Value} (hg : Blk W g cs 37) (hs : cs.size = 5) (h2 : tmps.getD 6 undef = .pointer (some ⟨g, 0, none⟩)) (h3 : tmps.getD 7 undef = u) :
    (results Try.f26 tmps).run Try.prog W = .ok (.tuple #[.agg cs, u]) W := by
  rw [results_cell_tmp rfl, h2, h3]
  have hl := run_loadVar_row (P := Try.prog) W g 37 37 cs (0, 0) _ hg Try.underlying37 rfl (by rw [hs]; kernel_rfl)
  simp [asAddr, Result.andThen, hl]
theorem fr_set5o {w w1 : World} (h : Fr0 w w1) {b : Nat} (hb : w.heap.size ≤ b) (x0 x1 x2 x3 x4 : Value) : Fr0 w (((((w1.setCell ⟨b, 0, none⟩ x0).setCell ⟨b, 1, none⟩ x1).setCell ⟨b, 2, none⟩ x2).setCell ⟨b, 3, none⟩ x3).setCell ⟨b, 4, none⟩ x4) :=
  Fr.setCell (p := ⟨b, 4, none⟩) (Fr.setCell (p := ⟨b, 3, none⟩) (Fr.setCell (p := ⟨b, 2, none⟩) (Fr.setCell (p := ⟨b, 1, none⟩) (Fr.setCell (p := ⟨b, 0, none⟩) h (.inr hb) x0) (.inr hb) x1) (.inr hb) x2) (.inr hb) x3) (.inr hb) x4
theorem fr1_set5o {w w1 : World} {b : Nat} (h : Fr1 b w w1) (x0 x1 x2 x3 x4 : Value) : Fr1 b w (((((w1.setCell ⟨b, 0, none⟩ x0).setCell ⟨b, 1, none⟩ x1).setCell ⟨b, 2, none⟩ x2).setCell ⟨b, 3, none⟩ x3).setCell ⟨b, 4, none⟩ x4) :=
  ((((h.set 0 x0).set 1 x1).set 2 x2).set 3 x3).set 4 x4
theorem blk_set5o {w1 : World} {b : Nat} {a0 a1 a2 a3 a4 : Value} {t : TypeId} (h : Blk w1 b #[a0, a1, a2, a3, a4] t) (x0 x1 x2 x3 x4 : Value) :
    Blk (((((w1.setCell ⟨b, 0, none⟩ x0).setCell ⟨b, 1, none⟩ x1).setCell ⟨b, 2, none⟩ x2).setCell ⟨b, 3, none⟩ x3).setCell ⟨b, 4, none⟩ x4) b #[x0, x1, x2, x3, x4] t :=
  ((((h.set 0 x0).set 1 x1).set 2 x2).set 3 x3).set 4 x4

theorem fr_set4o {w w1 : World} (h : Fr0 w w1) {b : Nat} (hb : w.heap.size ≤ b) (x0 x1 x2 x3 : Value) : Fr0 w ((((w1.setCell ⟨b, 0, none⟩ x0).setCell ⟨b, 1, none⟩ x1).setCell ⟨b, 2, none⟩ x2).setCell ⟨b, 3, none⟩ x3) :=
  Fr.setCell (p := ⟨b, 3, none⟩) (Fr.setCell (p := ⟨b, 2, none⟩) (Fr.setCell (p := ⟨b, 1, none⟩) (Fr.setCell (p := ⟨b, 0, none⟩) h (.inr hb) x0) (.inr hb) x1) (.inr hb) x2) (.inr hb) x3
theorem blk_set4o {w1 : World} {b : Nat} {a0 a1 a2 a3 : Value} {t : TypeId} (h : Blk w1 b #[a0, a1, a2, a3] t) (x0 x1 x2 x3 : Value) :
    Blk ((((w1.setCell ⟨b, 0, none⟩ x0).setCell ⟨b, 1, none⟩ x1).setCell ⟨b, 2, none⟩ x2).setCell ⟨b, 3, none⟩ x3) b #[x0, x1, x2, x3] t :=
  (((h.set 0 x0).set 1 x1).set 2 x2).set 3 x3
theorem step_b {p : Nat} {fs fd : Value} {A : Option Addr} {c : Nat} {o : OutD} {w : World} (hd : DiffFn fd) (h : OutV w p fs fd A c o) (x : Snt) (u : ByteArray) (hx : x.s.size ≤ 100000) (ht : u.size ≤ 100000) {b : Bool} (hok : okStep x.s u = b) :
    Calls Try.prog 34 #[.pointer (some ⟨p, 0, none⟩), .agg #[.int .i64 x.n, .string x.s, .bool x.told, .int .i64 x.at_], .string u] w fun e w' =>
      ∃ A n c, e = .returned (.tuple #[.slice A n c, .bool b]) ∧ Fr0 w w' ∧ (b = true → n = (diffT x.s u).length ∧ RdB w' (.slice A n c) (diffT x.s u) ∧ TyB w' (.slice A n c) 5) := by
  subst hok
  exact step_any hd h x u hx ht
theorem frS_set5 {S : Nat → Prop} {w w1 : World} (h : Fr S w w1) {b : Nat} (hb : w.heap.size ≤ b) (x0 x1 x2 x3 x4 : Value) : Fr S w (((((w1.setCell ⟨b, 0, none⟩ x0).setCell ⟨b, 1, none⟩ x1).setCell ⟨b, 2, none⟩ x2).setCell ⟨b, 3, none⟩ x3).setCell ⟨b, 4, none⟩ x4) :=
  Fr.setCell (p := ⟨b, 4, none⟩) (Fr.setCell (p := ⟨b, 3, none⟩) (Fr.setCell (p := ⟨b, 2, none⟩) (Fr.setCell (p := ⟨b, 1, none⟩) (Fr.setCell (p := ⟨b, 0, none⟩) h (.inr hb) x0) (.inr hb) x1) (.inr hb) x2) (.inr hb) x3) (.inr hb) x4
def snA (x : Snt) : Array Value := #[.int .i64 x.n, .string x.s, .bool x.told, .int .i64 x.at_]
/-- append of one state that was told. -/
theorem step_snt {ops : Array Oper} {o : Oper} {a : Act} {K : Act → World → Prop} {Q : Exit → Act → World → Prop} {E : Prop} (hgd : o.guard = none) (s x : Operand)
    (ho : o.op = .call { callee := .builtin .append, args := #[s, x], argTypes := #[59, 59] }) {w0 w : World} (hf : Fr0 w0 w) {v : Value} {n : Nat} {l : List Snt} (hown : w.ownsRow w0.heap.size 64 4 v n (flat sntC l)) (hs : a.eval s = v)
    {q : Nat} {y : Snt} (hr : Blk w q (snA y) 64) (hx : a.eval x = .slice (some ⟨q, 0, none⟩) 1 1) (hn : n ≤ 1000)
    (h : ∀ A c w', w'.ownsRow w0.heap.size 64 4 (.slice A (n + 1) c) (n + 1) (flat sntC (l ++ [y])) → Fr0 w0 w' → K (a.put o.dst (.slice A (n + 1) c)) w') :
    if Region.wanted o (yielded ops a.tmps) = true then Oper.wp Try.prog o a w K Q else E := by
  obtain ⟨i0, hi, hz0, hz1, hz2⟩ := info_parts infoSnt
  refine step_append_rd hgd s x 59 ho hf 64 i0 (.agg #[.int .i64 0, .string ⟨#[]⟩, .bool false, .int .i64 0]) 4 40 Try.underlying59 hi hz0 hz1 hz2 rfl (by decide) hown hs (rd_one (cs := sntC y) hr) hx (sntC_one y) (by unfold maxLen; omega) (by omega) ?_
  intro A c w' h1 h2
  exact h A c w' (by rw [flat_app, flat_one]; exact h1) h2
theorem pick_snoc (f : Snt → Bool) (b : Snt) {l : List Snt} {k : Nat} (hk : k < l.length) :
    (l.take (k + 1)).foldl (fun o x => if f x = true then x else o) b = if f l[k] = true then l[k] else (l.take k).foldl (fun o x => if f x = true then x else o) b := by
  rw [List.take_succ_eq_append_getElem hk, List.foldl_append]
  rfl
/-- What the state makes of a world. -/
def StateEnd (fs fd : Value) (p : Nat) (o : OutD) (r : Option Told) (w : World) (e : Ending) (w' : World) : Prop :=
  Fr1 p w w' ∧ match r with
  | none => e = .returned (.tuple #[.agg #[.int .i64 0, .int .i64 0, .int .i64 0, .int .i64 0, .slice none 0 0], .bool false]) ∧ ∃ A c, OutV w' p fs fd A c o
  | some t => ∃ A c Ad cd, e = .returned (.tuple #[.agg #[.int .i64 t.old, .int .i64 t.new, .int .i64 0, .int .i64 0, .slice Ad t.d.length cd], .bool true]) ∧ OutV w' p fs fd A c (withAll o t.all) ∧ RdB w' (.slice Ad t.d.length cd) t.d ∧ TyB w' (.slice Ad t.d.length cd) 5

set_option maxHeartbeats 4000000 in
set_option maxRecDepth 100000 in
theorem state_any {p : Nat} {fs fd : Value} {A : Option Addr} {c : Nat} {o : OutD} {w : World} (hs : SameFn fs) (hd : DiffFn fd) (h : OutV w p fs fd A c o) (hok : OutOk o) (hsz : ∀ x ∈ o.all, x.s.size ≤ 100000) (hnz : o.now.size ≤ 100000) (now wait : Int) (h0 : 0 ≤ now ∧ now ≤ 1099511627776) :
    Calls Try.prog 26 #[.pointer (some ⟨p, 0, none⟩), .int .i64 now, .int .i64 wait] w fun e w' => StateEnd fs fd p o (stateP o now wait) w e w' := by
  obtain ⟨f1, rfl, hb1, hsame⟩ := hs
  have hpos := hok.pos
  obtain ⟨g, off, rfl, hg, hcap⟩ := h.addr hpos
  have l63 := h.rd.le63
  have H := Lib.hid h
  have D := Lib.hid hd
  have hZ := h.fr0 ((Fr0.refl w).alloc (.cells #[.int .i64 0, .int .i64 0, .int .i64 0, .int .i64 0, .slice none 0 0] 37))
  have HZ := Lib.hid hZ
  have BZ := Lib.hid (Blk.new w #[.int .i64 0, .int .i64 0, .int .i64 0, .int .i64 0, .slice none 0 0] 37)
  have HL := Lib.hid (fun n => last_any (hZ.fr0 ((Fr0.refl _).drewN n)) hpos)
  have oat := hok.oat
  have hSi := Lib.hid (fun W => since_any o.told o.at_ now 20 W (by omega) (by omega))
  have HSm := Lib.hid (fun W => hsame o.now (lastS o.all).s W)
  have bat := hok.at0 _ (baseS_mem hpos)
  have OK := Lib.hid hok
  have SZ := Lib.hid hsz
  have HP := Lib.hid (show stateP o now wait = if stateDue o now = true then
    if okStep (assumed o.all now wait).s o.now = true then some ⟨sentMore o now, (assumed o.all now wait).n, (lastS o.all).n + 1, diffT (assumed o.all now wait).s o.now⟩
    else if okStep (baseS o.all).s o.now = true then some ⟨sentMore o now, (baseS o.all).n, (lastS o.all).n + 1, diffT (baseS o.all).s o.now⟩
    else none else none from rfl)
  have HDU := Lib.hid (show stateDue o now = (decide (o.all.length ≤ 8) && decide ((lastS o.all).n < 1099511627776) && !since o.told o.at_ now 20 && decide (o.now ≠ (lastS o.all).s)) from rfl)
  obtain ⟨r, hr⟩ : ∃ r, r = stateP o now wait := ⟨_, rfl⟩
  rw [← hr] at HP ⊢
  obtain ⟨du, hdu⟩ : ∃ du, du = stateDue o now := ⟨_, rfl⟩
  rw [← hdu] at HP HDU
  obtain ⟨sb, hsb⟩ : ∃ sb, sb = since o.told o.at_ now 20 := ⟨_, rfl⟩
  rw [← hsb] at HDU hSi
  have el := h.cellAt (i := o.all.length - 1) (by omega)
  have hp := h.blk.lt
  rw [← last_eq hpos] at el
  obtain ⟨e0, e1, -, -⟩ := el
  have z0 : (w.alloc (.cells #[.int .i64 0, .int .i64 0, .int .i64 0, .int .i64 0, .slice none 0 0] 37)).cell? ⟨g, off + (o.all.length - 1) * 4, none⟩ = some (.int .i64 (lastS o.all).n) := Fr0.cell ((Fr0.refl w).alloc _) e0
  have z1 : (w.alloc (.cells #[.int .i64 0, .int .i64 0, .int .i64 0, .int .i64 0, .slice none 0 0] 37)).cell? ⟨g, off + (o.all.length - 1) * 4 + 1, none⟩ = some (.string (lastS o.all).s) := Fr0.cell ((Fr0.refl w).alloc _) e1
  have c0 : ((w.alloc (.cells #[.int .i64 0, .int .i64 0, .int .i64 0, .int .i64 0, .slice none 0 0] 37))).cell? ⟨p, 0, none⟩ = some (.func (.func f1) #[] #[]) := (HZ.out.blk).cell 0 rfl
  have c1 : ((w.alloc (.cells #[.int .i64 0, .int .i64 0, .int .i64 0, .int .i64 0, .slice none 0 0] 37))).cell? ⟨p, 1, none⟩ = some fd := (HZ.out.blk).cell 1 rfl
  have c2 : ((w.alloc (.cells #[.int .i64 0, .int .i64 0, .int .i64 0, .int .i64 0, .slice none 0 0] 37))).cell? ⟨p, 2, none⟩ = some (.string o.now) := (HZ.out.blk).cell 2 rfl
  have c3 : ((w.alloc (.cells #[.int .i64 0, .int .i64 0, .int .i64 0, .int .i64 0, .slice none 0 0] 37))).cell? ⟨p, 3, none⟩ = some (.slice (some ⟨g, off, none⟩) o.all.length c) := (HZ.out.blk).cell 3 rfl
  have c4 : ((w.alloc (.cells #[.int .i64 0, .int .i64 0, .int .i64 0, .int .i64 0, .slice none 0 0] 37))).cell? ⟨p, 4, none⟩ = some (.int .i64 o.ack) := (HZ.out.blk).cell 4 rfl
  have c5 : ((w.alloc (.cells #[.int .i64 0, .int .i64 0, .int .i64 0, .int .i64 0, .slice none 0 0] 37))).cell? ⟨p, 5, none⟩ = some (.bool o.told) := (HZ.out.blk).cell 5 rfl
  have c6 : ((w.alloc (.cells #[.int .i64 0, .int .i64 0, .int .i64 0, .int .i64 0, .slice none 0 0] 37))).cell? ⟨p, 6, none⟩ = some (.int .i64 o.at_) := (HZ.out.blk).cell 6 rfl
  obtain ⟨lst, hlst⟩ : ∃ x, x = lastS o.all := ⟨_, rfl⟩
  rw [← hlst] at z0 z1 HSm HDU HP
  obtain ⟨j, hj⟩ : ∃ j, j = o.all.length - 1 := ⟨_, rfl⟩
  rw [← hj] at HL z0 z1
  have HLst := Lib.hid hlst
  have HJ := Lib.hid hj
  clear h hd hZ hok hsz hr hdu hsb e0 e1 hlst hj hsame
  go_enter Try.func26, Try.ntmps26
  go_wp2_with fail
  go_cut [56] (fun s wx => s = .bool (!du) ∧ ∃ n, wx = (w.alloc (.cells #[.int .i64 0, .int .i64 0, .int .i64 0, .int .i64 0, .slice none 0 0] 37)).drewN n)
  case first =>
    by_cases h1 : 8 < o.all.length
    · have q1 : decide (8 < (o.all.length : Int)) = true := by simp; omega
      have DU := Lib.hid (show du = false by rw [HDU.out, decide_eq_false (by omega)]; rfl)
      clear h1
      go_quiet (fail)
      go_wp2_with fail
      go_meet
      exact ⟨by rw [DU.out]; rfl, _, rfl⟩
    · have q1 : decide (8 < (o.all.length : Int)) = false := by simp; omega
      by_cases h2 : 1099511627776 ≤ lst.n
      · have q2 : decide (1099511627776 ≤ lst.n) = true := by simpa using h2
        have DU := Lib.hid (show du = false by rw [HDU.out, decide_eq_false (show ¬ lst.n < 1099511627776 by omega)]; simp)
        clear h1 h2
        go_quiet ((go_at_call 32; exact Calls.quiet_of (HL.out _)))
        go_wp2_with fail
        go_meet
        exact ⟨by rw [DU.out]; rfl, _, rfl⟩
      · have q2 : decide (1099511627776 ≤ lst.n) = false := by simp; omega
        by_cases h3 : sb = true
        · subst h3
          have DU := Lib.hid (show du = false by rw [HDU.out]; simp)
          clear h1 h2
          go_quiet ((first | (go_at_call 32; exact Calls.quiet_of (HL.out _)) | (go_at_call 28; exact quiet_left (hSi.out _))))
          go_wp2_with fail
          go_meet
          exact ⟨by rw [DU.out]; rfl, _, rfl⟩
        · obtain rfl : sb = false := by simpa using h3
          have DU := Lib.hid (show du = decide (o.now ≠ lst.s) by rw [HDU.out, decide_eq_true (by omega), decide_eq_true (show lst.n < 1099511627776 by omega)]; rfl)
          clear h1 h2 h3
          go_quiet ((first | (go_at_call 32; exact Calls.quiet_of (HL.out _)) | (go_at_call 28; exact quiet_left (hSi.out _)) | exact quiet_left (HSm.out _)))
          go_wp2_with fail
          go_meet
          exact ⟨by rw [DU.out]; simp, _, rfl⟩
  case rest =>
    obtain ⟨rfl, n, rfl⟩ := hcut
    clear HDU hSi HSm HL z0 z1 c0 c1 c2 c3 c4 c5 c6
    replace HZ := Lib.hid ((HZ.out).fr0 ((Fr0.refl _).drewN n))
    replace BZ := Lib.hid ((BZ.out).fr0 ((Fr0.refl _).drewN n))
    have F := Lib.hid (((Fr0.refl w).alloc (.cells #[.int .i64 0, .int .i64 0, .int .i64 0, .int .i64 0, .slice none 0 0] 37)).drewN n)
    generalize (w.alloc (.cells #[.int .i64 0, .int .i64 0, .int .i64 0, .int .i64 0, .slice none 0 0] 37)).drewN n = W0 at *
    have pW : p < W0.heap.size := (HZ.out).blk.lt
    have gW : g < W0.heap.size := by have := (F.out).size; omega
    have zW : w.heap.size < W0.heap.size := (BZ.out).lt
    by_cases hdu : du = true
    · subst hdu
      have HP2 := Lib.hid ((HP.out).trans (if_pos rfl))
      clear HP
      have d := (HZ.out).cellAt hpos
      rw [← base_eq hpos] at d
      obtain ⟨d0, d1, d2, d3⟩ := d
      simp only [Nat.zero_mul, Nat.add_zero] at d0 d1 d2 d3
      have HAs := Lib.hid (show assumed o.all now wait = (o.all.take o.all.length).foldl (fun o x => if since x.told x.at_ now wait = true then x else o) (baseS o.all) by rw [List.take_length]; rfl)
      obtain ⟨b0, hb0⟩ : ∃ x, x = baseS o.all := ⟨_, rfl⟩
      rw [← hb0] at d0 d1 d2 d3 HAs HP2 bat
      have HB0 := Lib.hid hb0
      obtain ⟨L, hL⟩ : ∃ L, L = o.all.length := ⟨_, rfl⟩
      have HL2 := Lib.hid hL
      have c3 : W0.cell? ⟨p, 3, none⟩ = some (.slice (some ⟨g, off, none⟩) L c) := by rw [hL]; exact (HZ.out).blk.cell 3 rfl
      have il : (0 : Int) < (L : Int) := by omega
      have il2 : L ≤ 9223372036854775807 := by omega
      clear hb0 hL
      go_wp2_with fail
      go_loopw [69] (fun v69 wr => ∃ k : Nat, k ≤ L ∧ v69 = .int .i64 k ∧ Fr0 W0 wr ∧ Blk wr W0.heap.size (snA ((o.all.take k).foldl (fun o x => if since x.told x.at_ now wait = true then x else o) b0)) 64) (fun v69 _ => L - (intOf v69).toNat)
      case atStart => exact ⟨0, Nat.zero_le _, rfl, (Fr0.refl _).alloc _, Blk.new _ _ _⟩
      case round =>
        obtain ⟨k, hk, rfl, hf, hb⟩ := hrel
        by_cases hlt : k < L
        · have hlo : k < o.all.length := by rw [← HL2.out]; exact hlt
          have d := ((HZ.out).fr0 hf).cellAt hlo
          have hat := (OK.out).at0 _ (List.getElem_mem hlo)
          have hSn := Lib.hid (pick_snoc (fun x => since x.told x.at_ now wait) b0 hlo)
          obtain ⟨x, hx⟩ : ∃ x, x = o.all[k] := ⟨_, rfl⟩
          obtain ⟨y, hy⟩ : ∃ y, y = (o.all.take k).foldl (fun o x => if since x.told x.at_ now wait = true then x else o) b0 := ⟨_, rfl⟩
          rw [← hx] at d hat hSn
          rw [← hy] at hSn hb
          obtain ⟨d0', d1', d2', d3'⟩ := d
          have hSi := Lib.hid (fun W => since_any x.told x.at_ now wait W (by omega) (by omega))
          obtain ⟨sx, hsx⟩ : ∃ sx, sx = since x.told x.at_ now wait := ⟨_, rfl⟩
          rw [← hsx] at hSi hSn
          have i0 : (0 : Int) ≤ (k : Int) := by omega
          have i1 : (k : Int) < (L : Int) := by omega
          have F2 := Lib.hid hf
          have B8 := Lib.hid (hb.alloc (.cells (snA x) 64))
          have y0 : ((wr.alloc (.cells #[.int .i64 x.n, .string x.s, .bool x.told, .int .i64 x.at_] 64))).cell? ⟨W0.heap.size, 0, none⟩ = some (.int .i64 y.n) := (B8.out).cell 0 rfl
          have y1 : ((wr.alloc (.cells #[.int .i64 x.n, .string x.s, .bool x.told, .int .i64 x.at_] 64))).cell? ⟨W0.heap.size, 1, none⟩ = some (.string y.s) := (B8.out).cell 1 rfl
          have y2 : ((wr.alloc (.cells #[.int .i64 x.n, .string x.s, .bool x.told, .int .i64 x.at_] 64))).cell? ⟨W0.heap.size, 2, none⟩ = some (.bool y.told) := (B8.out).cell 2 rfl
          have y3 : ((wr.alloc (.cells #[.int .i64 x.n, .string x.s, .bool x.told, .int .i64 x.at_] 64))).cell? ⟨W0.heap.size, 3, none⟩ = some (.int .i64 y.at_) := (B8.out).cell 3 rfl
          have f0 : ((wr.alloc (.cells #[.int .i64 x.n, .string x.s, .bool x.told, .int .i64 x.at_] 64))).frozen? ⟨W0.heap.size, 0, none⟩ = false := (B8.out).free 0
          have f1 : ((wr.alloc (.cells #[.int .i64 x.n, .string x.s, .bool x.told, .int .i64 x.at_] 64))).frozen? ⟨W0.heap.size, 1, none⟩ = false := (B8.out).free 1
          have f2 : ((wr.alloc (.cells #[.int .i64 x.n, .string x.s, .bool x.told, .int .i64 x.at_] 64))).frozen? ⟨W0.heap.size, 2, none⟩ = false := (B8.out).free 2
          have f3 : ((wr.alloc (.cells #[.int .i64 x.n, .string x.s, .bool x.told, .int .i64 x.at_] 64))).frozen? ⟨W0.heap.size, 3, none⟩ = false := (B8.out).free 3
          clear hf hb hx hy hsx hlo hat
          by_cases hs1 : sx = true
          · subst hs1
            go_wp2_with (go_at_call 28; refine (hSi.out _).mono ?_; rintro e w' ⟨rfl, rfl⟩)
            go_roundw
            case measure => simp [intOf]; omega
            case rel =>
              have hB := ((((B8.out).set 0 (.int .i64 x.n)).set 1 (.string x.s)).set 2 (.bool x.told)).set 3 (.int .i64 x.at_)
              have hF := Fr.setCell (p := ⟨W0.heap.size, 3, none⟩) (Fr.setCell (p := ⟨W0.heap.size, 2, none⟩) (Fr.setCell (p := ⟨W0.heap.size, 1, none⟩) (Fr.setCell (p := ⟨W0.heap.size, 0, none⟩) ((F2.out).alloc (.cells (snA x) 64)) (.inr (Nat.le_refl _)) (.int .i64 x.n)) (.inr (Nat.le_refl _)) (.string x.s)) (.inr (Nat.le_refl _)) (.bool x.told)) (.inr (Nat.le_refl _)) (.int .i64 x.at_)
              have hS := hSn.out
              first | rw [if_pos trivial] at hS | rw [if_pos rfl] at hS
              (repeat apply Exists.intro); exact ⟨⟨k + 1, by omega, by go_num, hF, by rw [hS]; exact hB⟩, rfl⟩
          · obtain rfl : sx = false := by simpa using hs1
            clear hs1
            go_wp2_with (go_at_call 28; refine (hSi.out _).mono ?_; rintro e w' ⟨rfl, rfl⟩)
            go_roundw
            case measure => simp [intOf]; omega
            case rel =>
              have hS := hSn.out
              rw [if_neg (by simp)] at hS
              (repeat apply Exists.intro); exact ⟨⟨k + 1, by omega, by go_num, (F2.out).alloc (.cells (snA x) 64), by rw [hS]; exact B8.out⟩, rfl⟩
        · obtain rfl : k = L := by omega
          obtain ⟨y, hy⟩ : ∃ y, y = assumed o.all now wait := ⟨_, rfl⟩
          have hyb : Blk wr W0.heap.size (snA y) 64 := by rw [hy, HAs.out, ← HL2.out]; exact hb
          rw [← hy] at HP2
          have hys : y.s.size ≤ 100000 := SZ.out _ (by rw [hy]; exact assumed_mem hpos now wait)
          have hbs : b0.s.size ≤ 100000 := SZ.out _ (by rw [HB0.out]; exact baseS_mem hpos)
          have Y := Lib.hid hyb
          have FW := Lib.hid hf
          have HO := Lib.hid ((HZ.out).fr0 hf)
          have Q := Lib.hid ((Fr0.refl wr).drew)
          have hl1 : 0 ≤ lst.n ∧ lst.n ≤ 1099511627776 := by rw [HLst.out]; have h1 := (OK.out).lastN; have h2 := (OK.out).n0; have h3 := (OK.out).nm; omega
          have wl : IntKind.i64.wrap (lst.n + 1) = lst.n + 1 := IntWalk.i64_in _ (by omega)
          clear hb hf hyb hy c3 d0 d1 d2 d3 HAs
          obtain ⟨ok1, hok1⟩ : ∃ b, b = okStep y.s o.now := ⟨_, rfl⟩
          obtain ⟨ok2, hok2⟩ : ∃ b, b = okStep b0.s o.now := ⟨_, rfl⟩
          rw [← hok1, ← hok2] at HP2
          have O1 := Lib.hid hok1.symm
          have O2 := Lib.hid hok2.symm
          clear hok1 hok2
          go_wp2_with fail
          go_region_held_law (fun w' => w'.cell? ⟨p, 2, none⟩ = some (.string o.now) ∧ w'.cell? ⟨W0.heap.size, 0, none⟩ = some (.int .i64 y.n) ∧ w'.cell? ⟨W0.heap.size, 1, none⟩ = some (.string y.s) ∧ w'.cell? ⟨W0.heap.size, 2, none⟩ = some (.bool y.told) ∧ w'.cell? ⟨W0.heap.size, 3, none⟩ = some (.int .i64 y.at_)) (first | exact ⟨((HO.out).fr0 Q.out).blk.cell 2 rfl, ((Y.out).fr0 Q.out).cell 0 rfl, ((Y.out).fr0 Q.out).cell 1 rfl, ((Y.out).fr0 Q.out).cell 2 rfl, ((Y.out).fr0 Q.out).cell 3 rfl⟩) ((go_at_call 34; refine (step_b D.out ((HO.out).fr0 Q.out) y o.now hys hnz O1.out).mono ?_; rintro e w3 ⟨A1, n1, c1', rfl, hf, hr⟩; replace Q := Lib.hid ((Q.out).trans hf); have RD1 := Lib.hid hr; clear hr hf))
          go_upto_if 93 with (fail)
          go_cut [11] (fun s11 wx => ∃ (x : Snt) (Ad : Option Addr) (cd : Nat), s11 = .slice Ad (diffT x.s o.now).length cd ∧ Hid (r = some ⟨sentMore o now, x.n, lst.n + 1, diffT x.s o.now⟩) ∧ Fr0 W0 wx ∧ Blk wx W0.heap.size (snA x) 64 ∧ RdB wx (.slice Ad (diffT x.s o.now).length cd) (diffT x.s o.now) ∧ TyB wx (.slice Ad (diffT x.s o.now).length cd) 5)
          case first =>
            by_cases k1 : ok1 = true
            · subst k1
              have HR := Lib.hid ((HP2.out).trans (by first | exact if_pos rfl | exact if_pos trivial))
              obtain ⟨hn, h1, h2⟩ := (RD1.out) (by first | exact trivial | rfl)
              subst hn
              have R1 := Lib.hid (And.intro h1 h2)
              clear h1 h2 HP2
              go_wp2_with fail
              go_meet
              exact ⟨y, A1, c1', rfl, HR.out, (FW.out).trans Q.out, (Y.out).fr0 Q.out, (R1.out).1, (R1.out).2⟩
            · obtain rfl : ok1 = false := by simpa using k1
              have HR0 := Lib.hid ((HP2.out).trans (by first | exact if_neg (by simp) | exact if_neg (by trivial)))
              clear k1 HP2
              have d := ((HO.out).fr0 Q.out).cellAt hpos
              rw [← base_eq hpos, ← HB0.out] at d
              obtain ⟨d0, d1, d2, d3⟩ := d
              simp only [Nat.zero_mul, Nat.add_zero] at d0 d1 d2 d3
              have c3 : w3.cell? ⟨p, 3, none⟩ = some (.slice (some ⟨g, off, none⟩) k c) := by rw [HL2.out]; exact ((HO.out).fr0 Q.out).blk.cell 3 rfl
              have y0 : (w3).cell? ⟨W0.heap.size, 0, none⟩ = some (.int .i64 y.n) := (((Y.out).fr0 Q.out)).cell 0 rfl
              have y1 : (w3).cell? ⟨W0.heap.size, 1, none⟩ = some (.string y.s) := (((Y.out).fr0 Q.out)).cell 1 rfl
              have y2 : (w3).cell? ⟨W0.heap.size, 2, none⟩ = some (.bool y.told) := (((Y.out).fr0 Q.out)).cell 2 rfl
              have y3 : (w3).cell? ⟨W0.heap.size, 3, none⟩ = some (.int .i64 y.at_) := (((Y.out).fr0 Q.out)).cell 3 rfl
              have f0 : (w3).frozen? ⟨W0.heap.size, 0, none⟩ = false := (((Y.out).fr0 Q.out)).free 0
              have f1 : (w3).frozen? ⟨W0.heap.size, 1, none⟩ = false := (((Y.out).fr0 Q.out)).free 1
              have f2 : (w3).frozen? ⟨W0.heap.size, 2, none⟩ = false := (((Y.out).fr0 Q.out)).free 2
              have f3 : (w3).frozen? ⟨W0.heap.size, 3, none⟩ = false := (((Y.out).fr0 Q.out)).free 3
              go_upto_region 13 with (fail)
              have Y2 := Lib.hid (blk_set4o ((Y.out).fr0 Q.out) (.int .i64 b0.n) (.string b0.s) (.bool b0.told) (.int .i64 b0.at_))
              have F2 := Lib.hid (fr_set4o ((FW.out).trans Q.out) (Nat.le_refl _) (.int .i64 b0.n) (.string b0.s) (.bool b0.told) (.int .i64 b0.at_))
              clear d0 d1 d2 d3 c3 y0 y1 y2 y3 f0 f1 f2 f3 Y Q HO RD1
              generalize ((((w3.setCell ⟨W0.heap.size, 0, none⟩ (.int .i64 b0.n)).setCell ⟨W0.heap.size, 1, none⟩ (.string b0.s)).setCell ⟨W0.heap.size, 2, none⟩ (.bool b0.told)).setCell ⟨W0.heap.size, 3, none⟩ (.int .i64 b0.at_)) = w4 at *
              have Y := Y2
              clear Y2
              have HO := Lib.hid ((HZ.out).fr0 F2.out)
              replace FW := F2
              clear F2
              have Q := Lib.hid ((Fr0.refl w4).drew)
              go_region_held_law (fun w' => w'.cell? ⟨p, 2, none⟩ = some (.string o.now) ∧ w'.cell? ⟨W0.heap.size, 0, none⟩ = some (.int .i64 b0.n) ∧ w'.cell? ⟨W0.heap.size, 1, none⟩ = some (.string b0.s) ∧ w'.cell? ⟨W0.heap.size, 2, none⟩ = some (.bool b0.told) ∧ w'.cell? ⟨W0.heap.size, 3, none⟩ = some (.int .i64 b0.at_)) (first | exact ⟨((HO.out).fr0 Q.out).blk.cell 2 rfl, ((Y.out).fr0 Q.out).cell 0 rfl, ((Y.out).fr0 Q.out).cell 1 rfl, ((Y.out).fr0 Q.out).cell 2 rfl, ((Y.out).fr0 Q.out).cell 3 rfl⟩) ((go_at_call 34; refine (step_b D.out ((HO.out).fr0 Q.out) b0 o.now hbs hnz O2.out).mono ?_; rintro e w3 ⟨A2, n2, c2', rfl, hf, hr⟩; replace Q := Lib.hid ((Q.out).trans hf); have RD2 := Lib.hid hr; clear hr hf))
              by_cases k2 : ok2 = true
              · subst k2
                have HR := Lib.hid ((HR0.out).trans (by first | exact if_pos rfl | exact if_pos trivial))
                obtain ⟨hn, h1, h2⟩ := (RD2.out) (by first | exact trivial | rfl)
                subst hn
                have R1 := Lib.hid (And.intro h1 h2)
                clear h1 h2 HR0
                go_wp2_with fail
                go_meet
                exact ⟨b0, A2, c2', rfl, HR.out, (FW.out).trans Q.out, (Y.out).fr0 Q.out, (R1.out).1, (R1.out).2⟩
              · obtain rfl : ok2 = false := by simpa using k2
                have HR := Lib.hid ((HR0.out).trans (by first | exact if_neg (by simp) | exact if_neg (by trivial)))
                clear k2 HR0
                have F3 := Lib.hid ((F.out).trans ((FW.out).trans Q.out))
                have B3 := Lib.hid ((BZ.out).fr0 ((FW.out).trans Q.out))
                have H3 := Lib.hid ((HZ.out).fr0 ((FW.out).trans Q.out))
                have u0 : (w3).cell? ⟨w.heap.size, 0, none⟩ = some (.int .i64 0) := (B3.out).cell 0 rfl
                have u1 : (w3).cell? ⟨w.heap.size, 1, none⟩ = some (.int .i64 0) := (B3.out).cell 1 rfl
                have u2 : (w3).cell? ⟨w.heap.size, 2, none⟩ = some (.int .i64 0) := (B3.out).cell 2 rfl
                have u3 : (w3).cell? ⟨w.heap.size, 3, none⟩ = some (.int .i64 0) := (B3.out).cell 3 rfl
                have u4 : (w3).cell? ⟨w.heap.size, 4, none⟩ = some (.slice none 0 0) := (B3.out).cell 4 rfl
                have v0 : (w3).frozen? ⟨w.heap.size, 0, none⟩ = false := (B3.out).free 0
                have v1 : (w3).frozen? ⟨w.heap.size, 1, none⟩ = false := (B3.out).free 1
                have v2 : (w3).frozen? ⟨w.heap.size, 2, none⟩ = false := (B3.out).free 2
                have v3 : (w3).frozen? ⟨w.heap.size, 3, none⟩ = false := (B3.out).free 3
                have v4 : (w3).frozen? ⟨w.heap.size, 4, none⟩ = false := (B3.out).free 4
                go_wp21
                refine bodyPost_ret (v := .tuple #[.agg #[.int .i64 0, .int .i64 0, .int .i64 0, .int .i64 0, .slice none 0 0], .bool false]) (oret_state (blk_set5o B3.out _ _ _ _ _) rfl rfl rfl) rfl ⟨Fr1.of0 (fr_set5o F3.out (Nat.le_refl _) _ _ _ _ _), ?_⟩
                rw [HR.out]
                exact ⟨rfl, _, _, (H3.out).fr1 (fr1_set5o (Fr1.refl _ _) _ _ _ _ _) B3.out (by omega) (by decide)⟩
          case rest =>
            obtain ⟨x, Ad, cd, rfl, hR, hf, hy, hr, ht⟩ := hcut
            clear Q Y HO FW RD1 HP2 O1 O2
            generalize wc = w3 at *
            have HR := hR
            have FC := Lib.hid hf
            have HA := Lib.hid ((HZ.out).fr0 hf)
            have YA := Lib.hid hy
            have BA := Lib.hid ((BZ.out).fr0 hf)
            have RD := Lib.hid hr
            have TD := Lib.hid ht
            clear hR hf hy hr ht
            go_upto_region 16 with (fail)
            have HLa := Lib.hid (fun (W : World) (h : Fr0 w3 W) => show Calls Try.prog 32 #[.pointer (some ⟨p, 0, none⟩)] W (fun e w' => e = .returned (.pointer (some ⟨g, off + j * 4, none⟩)) ∧ ∃ n, w' = W.drewN n) by rw [HJ.out]; exact last_any ((HA.out).fr0 h) hpos)
            have NS := Lib.hid (fun (w' : World) (h : Fr0 w3 w') => show w'.cell? ⟨p, 2, none⟩ = some (.string o.now) ∧ w'.cell? ⟨g, off + j * 4, none⟩ = some (.int .i64 lst.n) from ⟨((HA.out).fr0 h).blk.cell 2 rfl, by have := ((HA.out).fr0 h).cellAt (i := o.all.length - 1) (by omega); rw [← last_eq hpos, ← HLst.out, ← HJ.out] at this; exact this.1⟩)
            have W3 := Lib.hid (show W0.heap.size < w3.heap.size from (YA.out).lt)
            have sW : W0.heap.size < w3.heap.size := W3.out
            go_cut [13] (fun s13 wx => ∃ q : Nat, s13 = .pointer (some ⟨q, 0, none⟩) ∧ w3.heap.size ≤ q ∧ Fr0 w3 wx ∧ Blk wx q (snA ⟨lst.n + 1, o.now, true, now⟩) 64)
            case first =>
              have Q := Lib.hid ((Fr0.refl w3).drew)
              have QA := Lib.hid (((Fr0.refl w3).alloc (.cells #[.int .i64 0, .string ⟨#[]⟩, .bool false, .int .i64 0] 64)).drew)
              go_region_held_law (fun w' => w'.cell? ⟨p, 2, none⟩ = some (.string o.now) ∧ w'.cell? ⟨g, off + j * 4, none⟩ = some (.int .i64 lst.n)) (first | with_reducible exact NS.out _ Q.out | with_reducible exact NS.out _ QA.out | with_reducible exact NS.out _ (fr_set4o (Q.out) (Nat.le_refl _) _ _ _ _) | with_reducible exact NS.out _ ((Q.out).alloc _)) (first | (go_at_call 32; (with_reducible refine (HLa.out _ Q.out).mono ?_); rintro e w5 ⟨rfl, nn, hw⟩; replace Q := Lib.hid (show Fr0 w3 w5 by rw [hw]; exact (Q.out).drewN nn); have P5 := Lib.hid ((Q.out).size); clear hw) | (go_at_call 32; (with_reducible refine (HLa.out _ QA.out).mono ?_); rintro e w5 ⟨rfl, nn, hw⟩; have X := Lib.hid (show Blk w5 w3.heap.size #[.int .i64 0, .string ⟨#[]⟩, .bool false, .int .i64 0] 64 by rw [hw]; exact ((Blk.new w3 #[.int .i64 0, .string ⟨#[]⟩, .bool false, .int .i64 0] 64).drew).drewN nn); replace Q := Lib.hid (show Fr0 w3 w5 by rw [hw]; exact (QA.out).drewN nn); have x0 : (w5).cell? ⟨w3.heap.size, 0, none⟩ = some (.int .i64 0) := (X.out).cell 0 rfl; have x1 : (w5).cell? ⟨w3.heap.size, 1, none⟩ = some (.string ⟨#[]⟩) := (X.out).cell 1 rfl; have x2 : (w5).cell? ⟨w3.heap.size, 2, none⟩ = some (.bool false) := (X.out).cell 2 rfl; have x3 : (w5).cell? ⟨w3.heap.size, 3, none⟩ = some (.int .i64 0) := (X.out).cell 3 rfl; have f0 : (w5).frozen? ⟨w3.heap.size, 0, none⟩ = false := (X.out).free 0; have f1 : (w5).frozen? ⟨w3.heap.size, 1, none⟩ = false := (X.out).free 1; have f2 : (w5).frozen? ⟨w3.heap.size, 2, none⟩ = false := (X.out).free 2; have f3 : (w5).frozen? ⟨w3.heap.size, 3, none⟩ = false := (X.out).free 3; clear hw))
              all_goals (go_wp2_with fail; go_meet)
              · exact ⟨_, rfl, P5.out, (Q.out).alloc _, Blk.new w5 (snA ⟨lst.n + 1, o.now, true, now⟩) 64⟩
              · exact ⟨_, rfl, Nat.le_refl _, fr_set4o (Q.out) (Nat.le_refl _) _ _ _ _, blk_set4o X.out _ _ _ _⟩
            case rest =>
              obtain ⟨q, rfl, hq, hf, hb⟩ := hcut
              clear HLa NS
              generalize wc = w6 at *
              have HC := Lib.hid ((HA.out).fr0 hf)
              have NC := Lib.hid hb
              have YC := Lib.hid ((YA.out).fr0 hf)
              have BC := Lib.hid ((BA.out).fr0 hf)
              have RC := Lib.hid (RdB.fr0 RD.out hf)
              have TC := Lib.hid ((TD.out).fr0 hf)
              have FD := Lib.hid ((FC.out).trans hf)
              have pW6 : p < w6.heap.size := (HC.out).blk.lt
              have qW6 : q < w6.heap.size := hb.lt
              have c3 : w6.cell? ⟨p, 3, none⟩ = some (.slice (some ⟨g, off, none⟩) o.all.length c) := (HC.out).blk.cell 3 rfl
              have x0 : (w6).cell? ⟨q, 0, none⟩ = some (.int .i64 (lst.n + 1)) := (NC.out).cell 0 rfl
              have x1 : (w6).cell? ⟨q, 1, none⟩ = some (.string o.now) := (NC.out).cell 1 rfl
              have x2 : (w6).cell? ⟨q, 2, none⟩ = some (.bool true) := (NC.out).cell 2 rfl
              have x3 : (w6).cell? ⟨q, 3, none⟩ = some (.int .i64 now) := (NC.out).cell 3 rfl
              have HCl := Lib.hid (fun (W : World) (h : Fr0 w6 W) => clone_snt ((HC.out).rd.fr0 h) (flat_mem sntC_one o.all) (by have := (OK.out).le; omega))
              have l9 : o.all.length ≤ 9 := (OK.out).le
              have qg : q ≠ p := by have h1 := (HA.out).blk.lt; omega
              clear hf hb HA YA BA RD TD FC
              go_wp2_with fail
              have Q := Lib.hid ((Fr0.refl w6).drew)
              have QA := Lib.hid (((Fr0.refl w6).alloc (.cells #[(.int .i64 (lst.n + 1)), (.string o.now), (.bool true), (.int .i64 now)] 64)).drew)
              go_cut [13] (fun s13 wx => s13 = .pointer (some ⟨q, 0, none⟩) ∧ ∃ A6 c6, OutV wx p (.func (.func f1) #[] #[]) fd A6 c6 (withAll o (o.all ++ [⟨lst.n + 1, o.now, true, now⟩])) ∧ Fr1 p w6 wx)
              case first =>
                go_region_law ((first | (have _q := N5; refine step_snt (by rfl) _ _ (by rfl) (Q.out) (O5.out) (by rfl) (N5.out) (by rfl) (by omega) ?_; intro A6 c6 w7 hown6 hf6; have F7 := Lib.hid hf6; have O7 := Lib.hid hown6; have e3 : w7.cell? ⟨p, 3, none⟩ = some (.slice (some ⟨g, off, none⟩) o.all.length c) := ((HC.out).fr0 hf6).blk.cell 3 rfl; have f3 : w7.frozen? ⟨p, 3, none⟩ = false := ((HC.out).fr0 hf6).blk.free 3; clear hown6 hf6) | (refine step_snt (by rfl) _ _ (by rfl) ((Q.out).alloc (.cells (snA ⟨lst.n + 1, o.now, true, now⟩) 64)) (own_fr O5.out ((Fr0.refl _).alloc (.cells (snA ⟨lst.n + 1, o.now, true, now⟩) 64)) (fun _ _ h => h)) (by rfl) (Blk.new _ (snA ⟨lst.n + 1, o.now, true, now⟩) 64) (by rfl) (by omega) ?_; intro A6 c6 w7 hown6 hf6; have F7 := Lib.hid hf6; have O7 := Lib.hid hown6; have e3 : w7.cell? ⟨p, 3, none⟩ = some (.slice (some ⟨g, off, none⟩) o.all.length c) := ((HC.out).fr0 hf6).blk.cell 3 rfl; have f3 : w7.frozen? ⟨p, 3, none⟩ = false := ((HC.out).fr0 hf6).blk.free 3; clear hown6 hf6) | (go_simp; go_wp2_with (first | (go_at_call 31; (with_reducible refine (HCl.out _ Q.out).mono ?_); rintro e w5 ⟨v, rfl, hown, hf⟩; obtain ⟨A5, c5, rfl, -, -, -⟩ := own_form hown; have O5 := Lib.hid (own_base hown (Q.out).size); replace Q := Lib.hid ((Q.out).trans hf); have x0' : w5.cell? ⟨q, 0, none⟩ = some (.int .i64 (lst.n + 1)) := ((NC.out).fr0 Q.out).cell 0 rfl; have x1' : w5.cell? ⟨q, 1, none⟩ = some (.string o.now) := ((NC.out).fr0 Q.out).cell 1 rfl; have x2' : w5.cell? ⟨q, 2, none⟩ = some (.bool true) := ((NC.out).fr0 Q.out).cell 2 rfl; have x3' : w5.cell? ⟨q, 3, none⟩ = some (.int .i64 now) := ((NC.out).fr0 Q.out).cell 3 rfl; clear hown hf) | (go_at_call 31; (with_reducible refine (HCl.out _ QA.out).mono ?_); rintro e w5 ⟨v, rfl, hown, hf⟩; obtain ⟨A5, c5, rfl, -, -, -⟩ := own_form hown; have O5 := Lib.hid (own_base hown (QA.out).size); have N5 := Lib.hid (((Blk.new w6 (snA ⟨lst.n + 1, o.now, true, now⟩) 64).drew).fr0 hf); replace Q := Lib.hid ((QA.out).trans hf); clear hown hf)))))
                all_goals (go_wp2_with fail; go_meet)
                all_goals exact ⟨rfl, _, _, OutV.setAll ((HC.out).fr0 F7.out) (by simp) O7.out, (Fr1.of0 F7.out).set 3 _⟩
              case rest =>
                obtain ⟨rfl, A6, c6, ho, hf1⟩ := hcut
                clear Q QA HCl
                have hYp : W0.heap.size ≠ p := by omega
                have hBp : w.heap.size ≠ p := by omega
                have YF := Lib.hid ((YC.out).fr1 hf1 hYp)
                have NF := Lib.hid ((NC.out).fr1 hf1 qg)
                have BF := Lib.hid ((BC.out).fr1 hf1 hBp)
                have HF := Lib.hid ho
                have RF := Lib.hid (And.intro (Rd.frT RC.out TC.out hf1 (HC.out).blk (by decide)) ((TC.out).fr1 hf1 (HC.out).blk (by decide)))
                have FF := Lib.hid (Fr1.trans (Fr1.of0 ((F.out).trans FD.out)) hf1)
                have yn : wc.cell? ⟨W0.heap.size, 0, none⟩ = some (.int .i64 x.n) := (YF.out).cell 0 rfl
                have nn0 : wc.cell? ⟨q, 0, none⟩ = some (.int .i64 (lst.n + 1)) := (NF.out).cell 0 rfl
                have u0 : (wc).cell? ⟨w.heap.size, 0, none⟩ = some (.int .i64 0) := (BF.out).cell 0 rfl
                have u1 : (wc).cell? ⟨w.heap.size, 1, none⟩ = some (.int .i64 0) := (BF.out).cell 1 rfl
                have u2 : (wc).cell? ⟨w.heap.size, 2, none⟩ = some (.int .i64 0) := (BF.out).cell 2 rfl
                have u3 : (wc).cell? ⟨w.heap.size, 3, none⟩ = some (.int .i64 0) := (BF.out).cell 3 rfl
                have u4 : (wc).cell? ⟨w.heap.size, 4, none⟩ = some (.slice none 0 0) := (BF.out).cell 4 rfl
                have v0 : (wc).frozen? ⟨w.heap.size, 0, none⟩ = false := (BF.out).free 0
                have v1 : (wc).frozen? ⟨w.heap.size, 1, none⟩ = false := (BF.out).free 1
                have v2 : (wc).frozen? ⟨w.heap.size, 2, none⟩ = false := (BF.out).free 2
                have v3 : (wc).frozen? ⟨w.heap.size, 3, none⟩ = false := (BF.out).free 3
                have v4 : (wc).frozen? ⟨w.heap.size, 4, none⟩ = false := (BF.out).free 4
                clear ho hf1
                go_wp21
                refine bodyPost_ret (v := .tuple #[.agg #[.int .i64 x.n, .int .i64 (lst.n + 1), .int .i64 0, .int .i64 0, .slice Ad (diffT x.s o.now).length cd], .bool true]) (oret_state (blk_set5o BF.out _ _ _ _ _) rfl rfl rfl) rfl ⟨frS_set5 FF.out (Nat.le_refl _) _ _ _ _ _, ?_⟩
                rw [HR.out]
                have eS : sentMore o now = o.all ++ [⟨lst.n + 1, o.now, true, now⟩] := by unfold sentMore; rw [← HLst.out]
                have h5 := fr1_set5o (Fr1.refl w.heap.size wc) (.int .i64 x.n) (.int .i64 (lst.n + 1)) (.int .i64 0) (.int .i64 0) (.slice Ad (diffT x.s o.now).length cd)
                refine ⟨A6, c6, Ad, cd, rfl, ?_, Rd.frT (RF.out).1 (RF.out).2 h5 BF.out (by decide), (RF.out).2.fr1 h5 BF.out (by decide)⟩
                simp only [eS]
                exact (HF.out).fr1 h5 BF.out (fun e => hBp e.symm) (by decide)

    · obtain rfl : du = false := by simpa using hdu
      have HP2 := Lib.hid ((HP.out).trans (if_neg (by simp)))
      clear HP hdu
      have u0 : (W0).cell? ⟨w.heap.size, 0, none⟩ = some (.int .i64 0) := (BZ.out).cell 0 rfl
      have u1 : (W0).cell? ⟨w.heap.size, 1, none⟩ = some (.int .i64 0) := (BZ.out).cell 1 rfl
      have u2 : (W0).cell? ⟨w.heap.size, 2, none⟩ = some (.int .i64 0) := (BZ.out).cell 2 rfl
      have u3 : (W0).cell? ⟨w.heap.size, 3, none⟩ = some (.int .i64 0) := (BZ.out).cell 3 rfl
      have u4 : (W0).cell? ⟨w.heap.size, 4, none⟩ = some (.slice none 0 0) := (BZ.out).cell 4 rfl
      have v0 : (W0).frozen? ⟨w.heap.size, 0, none⟩ = false := (BZ.out).free 0
      have v1 : (W0).frozen? ⟨w.heap.size, 1, none⟩ = false := (BZ.out).free 1
      have v2 : (W0).frozen? ⟨w.heap.size, 2, none⟩ = false := (BZ.out).free 2
      have v3 : (W0).frozen? ⟨w.heap.size, 3, none⟩ = false := (BZ.out).free 3
      have v4 : (W0).frozen? ⟨w.heap.size, 4, none⟩ = false := (BZ.out).free 4
      go_wp21
      refine bodyPost_ret (v := .tuple #[.agg #[.int .i64 0, .int .i64 0, .int .i64 0, .int .i64 0, .slice none 0 0], .bool false]) (oret_state (blk_set5o BZ.out _ _ _ _ _) rfl rfl rfl) rfl ⟨Fr1.of0 (fr_set5o F.out (Nat.le_refl _) _ _ _ _ _), ?_⟩
      rw [HP2.out]
      exact ⟨rfl, _, _, (HZ.out).fr1 (fr1_set5o (Fr1.refl _ _) _ _ _ _ _) BZ.out (by omega) (by decide)⟩
end Go.Proofs.Ytomdlfeaecknfaa
