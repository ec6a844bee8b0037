/- Same of instr and of the reference. Conditions stand in the statements. -/
import Derived.Test.YtkgjmfmnkcfabaaWireOwn
import Derived.Test.YtkgjmfmnkcfabaaArgs
namespace Go.Proofs.Ytkgjmfmnkcfabaa
open Go.RowKit

theorem strI (d : List UInt8) : (str d).toList = d := by rw [ByteArray.toList_eq]; exact str_toList d
/-- Whether two instructions are alike. -/
def alike (xo xn xa xt : Int) (dx : List UInt8) (yo yn ya yt : Int) (dy : List UInt8) : Bool := decide (xo = yo ∧ xn = yn ∧ xa = ya ∧ xt = yt ∧ dx = dy)

set_option maxHeartbeats 400000 in
theorem refSame_any {xo xn xa xt yo yn ya yt : Int} {vx vy : Value} {dx dy : List UInt8} {w : World} (hx : RdB w vx dx) (hy : RdB w vy dy) :
    Calls Try.prog 10 #[.agg #[.int .i64 xo, .int .i64 xn, .int .i64 xa, .int .i64 xt, vx], .agg #[.int .i64 yo, .int .i64 yn, .int .i64 ya, .int .i64 yt, vy]] w fun e w' => e = .returned (.bool (alike xo xn xa xt dx yo yn ya yt dy)) ∧ Fr0 w w' := by
  obtain ⟨Ax, cx, rfl, -, -, -⟩ := hx.form
  obtain ⟨Ay, cy, rfl, -, -, -⟩ := hy.form
  have hf : Fr0 w ((w.alloc (.cells #[.int .i64 xo, .int .i64 xn, .int .i64 xa, .int .i64 xt, .slice Ax dx.length cx] 25)).alloc (.cells #[.int .i64 yo, .int .i64 yn, .int .i64 ya, .int .i64 yt, .slice Ay dy.length cy] 25)) := ((Fr0.refl w).alloc _).alloc _
  have c1 := conv_own (hx.fr0 hf)
  have c2 := conv_own (hy.fr0 hf)
  have t1 := strI dx
  have t2 := strI dy
  have F := Lib.hid hf
  have hA : alike xo xn xa xt dx yo yn ya yt dy = decide (xo = yo ∧ xn = yn ∧ xa = ya ∧ xt = yt ∧ dx = dy) := rfl
  obtain ⟨r, hr⟩ : ∃ r, r = alike xo xn xa xt dx yo yn ya yt dy := ⟨_, rfl⟩
  rw [← hr] at hA ⊢
  clear hr hx hy hf
  by_cases e1 : xo = yo
  · have b1 : (xo == yo) = true := by simpa using e1
    by_cases e2 : xn = yn
    · have b2 : (xn == yn) = true := by simpa using e2
      by_cases e3 : xa = ya
      · have b3 : (xa == ya) = true := by simpa using e3
        by_cases e4 : xt = yt
        · have b4 : (xt == yt) = true := by simpa using e4
          by_cases e5 : dx = dy
          · have b5 : (dx == dy) = true := by simpa using e5
            have HR := Lib.hid (hA.trans (decide_eq_true ⟨e1, e2, e3, e4, e5⟩))
            clear e1 e2 e3 e4 e5 hA
            go_enter Try.func10, Try.ntmps10
            go_wp2_with fail
            go_ret
            exact ⟨by rw [HR.out]; rfl, F.out⟩
          · have b5 : (dx == dy) = false := by simpa using e5
            have HR := Lib.hid (hA.trans (decide_eq_false (fun h => e5 h.2.2.2.2)))
            clear e1 e2 e3 e4 e5 hA
            go_enter Try.func10, Try.ntmps10
            go_wp2_with fail
            go_ret
            exact ⟨by rw [HR.out]; rfl, F.out⟩
        · have b4 : (xt == yt) = false := by simpa using e4
          have HR := Lib.hid (hA.trans (decide_eq_false (fun h => e4 h.2.2.2.1)))
          clear e1 e2 e3 e4 hA
          go_enter Try.func10, Try.ntmps10
          go_wp2_with fail
          go_ret
          exact ⟨by rw [HR.out]; rfl, F.out⟩
      · have b3 : (xa == ya) = false := by simpa using e3
        have HR := Lib.hid (hA.trans (decide_eq_false (fun h => e3 h.2.2.1)))
        clear e1 e2 e3 hA
        go_enter Try.func10, Try.ntmps10
        go_wp2_with fail
        go_ret
        exact ⟨by rw [HR.out]; rfl, F.out⟩
    · have b2 : (xn == yn) = false := by simpa using e2
      have HR := Lib.hid (hA.trans (decide_eq_false (fun h => e2 h.2.1)))
      clear e1 e2 hA
      go_enter Try.func10, Try.ntmps10
      go_wp2_with fail
      go_ret
      exact ⟨by rw [HR.out]; rfl, F.out⟩
  · have b1 : (xo == yo) = false := by simpa using e1
    have HR := Lib.hid (hA.trans (decide_eq_false (fun h => e1 h.1)))
    clear e1 hA
    go_enter Try.func10, Try.ntmps10
    go_wp2_with fail
    go_ret
    exact ⟨by rw [HR.out]; rfl, F.out⟩

set_option maxHeartbeats 400000 in
theorem bequal_any {v1 v2 : Value} {d1 d2 : List UInt8} {w : World} (h1 : RdB w v1 d1) (h2 : RdB w v2 d2) :
    Calls Try.prog 27 #[v1, v2] w fun e w' => e = .returned (.bool (d1 == d2)) ∧ Fr0 w w' := by
  obtain ⟨A1, e1, rfl, -, -, -⟩ := h1.form
  obtain ⟨A2, e2, rfl, -, -, -⟩ := h2.form
  have c1 := conv_own h1
  have c2 := conv_own h2
  have t1 := strI d1
  have t2 := strI d2
  clear h1 h2
  go_enter Try.func27, Try.ntmps27
  go_wp2_with fail
  go_ret
  exact ⟨rfl, Fr0.refl _⟩

/-- Whether an instruction is like another one of a list's. -/
def alikeI (x y : InsD) : Bool := alike x.old x.new x.ack x.trash x.d y.old y.new y.ack y.trash y.d

set_option maxHeartbeats 2000000 in
set_option maxRecDepth 100000 in
theorem same_any {x : InsD} {v : Value} {l : List InsD} {w : World} (hx : RdB w x.dv x.d) (hl : InsArg w v l) :
    Calls Try.prog 14 #[.agg #[.int .i64 x.old, .int .i64 x.new, .int .i64 x.ack, .int .i64 x.trash, x.dv], v] w fun e w' => e = .returned (.bool (l.all (alikeI x))) ∧ Fr0 w w' := by
  obtain ⟨A, c, rfl, hnc, -, -⟩ := hl.rd.form
  obtain ⟨xo, xn, xa, xt, xv, dx⟩ := x
  simp only at hx ⊢
  obtain ⟨Ax, cx, rfl, -, -, -⟩ := hx.form
  have l63 := hl.rd.le63
  have L := Lib.hid hl
  have X := Lib.hid hx
  have bx := Lib.hid (Blk.new w #[.int .i64 xo, .int .i64 xn, .int .i64 xa, .int .i64 xt, .slice Ax dx.length cx] 25)
  clear hl hx
  go_enter Try.func14, Try.ntmps14
  go_wp2_with fail
  go_loopw [9] (fun v9 wr => ∃ i : Nat, v9 = .int .i64 (i : Int) ∧ i ≤ l.length ∧ Fr0 w wr ∧ Blk wr w.heap.size #[.int .i64 xo, .int .i64 xn, .int .i64 xa, .int .i64 xt, .slice Ax dx.length cx] 25 ∧ Hid ((l.take i).all (alikeI ⟨xo, xn, xa, xt, .slice Ax dx.length cx, dx⟩) = true)) (fun v9 _ => l.length - (intOf v9).toNat)
  case atStart => exact ⟨0, rfl, by omega, (Fr0.refl w).alloc _, bx.out, by simp [Hid]⟩
  case round =>
    obtain ⟨i, rfl, hi, hf, hb, hall⟩ := hrel
    by_cases hlt : i < l.length
    · have a1 : decide ((i : Int) < (l.length : Int)) = true := by simp; omega
      have i1 : (i : Int) < (l.length : Int) := by omega
      obtain ⟨g, off, hA, hic, _, hcell⟩ := ((L.out).fr0 hf).rd.cellA hlt
      obtain ⟨q0, q1, q2, q3, q4⟩ := insCells_at l i hlt
      have e0 := hcell 0 _ q0
      have e1 := hcell 1 _ q1
      have e2 := hcell 2 _ q2
      have e3 := hcell 3 _ q3
      have e4 := hcell 4 _ q4
      simp only [Nat.add_zero] at e0
      have hrd := ((L.out).fr0 hf).each _ (List.getElem_mem hlt)
      obtain ⟨y, hy⟩ : ∃ y, y = l[i] := ⟨_, rfl⟩
      rw [← hy] at e0 e1 e2 e3 e4 hrd
      have HY := Lib.hid hy
      obtain ⟨yo, yn, ya, yt, yv, dy⟩ := y
      simp only at e0 e1 e2 e3 e4 hrd
      obtain ⟨Ay, cy, rfl, -, -, -⟩ := hrd.form
      subst hA
      have HA := Lib.hid hall.out
      have RD := Lib.hid hrd
      have BB := Lib.hid hb
      have F := Lib.hid hf
      have x0 : (wr.alloc (.cells #[.int .i64 yo, .int .i64 yn, .int .i64 ya, .int .i64 yt, .slice Ay dy.length cy] 25)).cell? ⟨w.heap.size, 0, none⟩ = some (.int .i64 xo) := (hb.alloc _).cell 0 rfl
      have x1 : (wr.alloc (.cells #[.int .i64 yo, .int .i64 yn, .int .i64 ya, .int .i64 yt, .slice Ay dy.length cy] 25)).cell? ⟨w.heap.size, 1, none⟩ = some (.int .i64 xn) := (hb.alloc _).cell 1 rfl
      have x2 : (wr.alloc (.cells #[.int .i64 yo, .int .i64 yn, .int .i64 ya, .int .i64 yt, .slice Ay dy.length cy] 25)).cell? ⟨w.heap.size, 2, none⟩ = some (.int .i64 xa) := (hb.alloc _).cell 2 rfl
      have x3 : (wr.alloc (.cells #[.int .i64 yo, .int .i64 yn, .int .i64 ya, .int .i64 yt, .slice Ay dy.length cy] 25)).cell? ⟨w.heap.size, 3, none⟩ = some (.int .i64 xt) := (hb.alloc _).cell 3 rfl
      have x4 : (wr.alloc (.cells #[.int .i64 yo, .int .i64 yn, .int .i64 ya, .int .i64 yt, .slice Ay dy.length cy] 25)).cell? ⟨w.heap.size, 4, none⟩ = some (.slice Ax dx.length cx) := (hb.alloc _).cell 4 rfl
      clear q0 q1 q2 q3 q4 hcell hrd hy hb hf hall
      by_cases hB : xo = yo ∧ xn = yn ∧ xa = ya ∧ xt = yt
      · obtain ⟨rfl, rfl, rfl, rfl⟩ := hB
        have FA := Lib.hid ((F.out).alloc (.cells #[.int .i64 xo, .int .i64 xn, .int .i64 xa, .int .i64 xt, .slice Ay dy.length cy] 25))
        have BA := Lib.hid ((BB.out).alloc (.cells #[.int .i64 xo, .int .i64 xn, .int .i64 xa, .int .i64 xt, .slice Ay dy.length cy] 25))
        have HE := Lib.hid (bequal_any ((X.out).fr0 FA.out) ((RD.out).fr0 ((Fr0.refl wr).alloc (.cells #[.int .i64 xo, .int .i64 xn, .int .i64 xa, .int .i64 xt, .slice Ay dy.length cy] 25))))
        by_cases hd : dx = dy
        · have b5 : (dx == dy) = true := by simpa using hd
          have HD := Lib.hid hd
          clear hd
          go_wp2_with (go_at_call 27; refine (HE.out).mono ?_; rintro e w3 ⟨rfl, hf⟩; have F3 := Lib.hid hf; clear hf)
          go_roundw
          case measure => simp [intOf]; omega
          case rel =>
            refine ⟨i + 1, by go_num, by omega, (FA.out).trans F3.out, (BA.out).fr0 F3.out, ?_⟩
            show _ = _
            rw [List.take_succ_eq_append_getElem hlt, List.all_append, HA.out, ← HY.out]
            simp [alikeI, alike, HD.out]
        · have b5 : (dx == dy) = false := by simpa using hd
          have HD := Lib.hid hd
          clear hd
          go_wp2_with (go_at_call 27; refine (HE.out).mono ?_; rintro e w3 ⟨rfl, hf⟩; have F3 := Lib.hid hf; clear hf)
          go_ret
          refine ⟨?_, (FA.out).trans F3.out⟩
          have : l.all (alikeI ⟨xo, xn, xa, xt, .slice Ax dx.length cx, dx⟩) = false := by
            rw [List.all_eq_false]
            exact ⟨_, List.getElem_mem hlt, by rw [← HY.out]; simp [alikeI, alike, HD.out]⟩
          rw [this]; rfl
      · have HB := Lib.hid hB
        have FA := Lib.hid ((F.out).alloc (.cells #[.int .i64 yo, .int .i64 yn, .int .i64 ya, .int .i64 yt, .slice Ay dy.length cy] 25))
        have HALL := Lib.hid (show l.all (alikeI ⟨xo, xn, xa, xt, .slice Ax dx.length cx, dx⟩) = false by
          rw [List.all_eq_false]
          refine ⟨_, List.getElem_mem hlt, ?_⟩
          rw [← HY.out]
          simp only [alikeI, alike, decide_eq_true_eq]
          exact fun h => hB ⟨h.1, h.2.1, h.2.2.1, h.2.2.2.1⟩)
        clear hB
        go_wp2_with fail
        all_goals first
          | (exfalso; exact HB.out ⟨by assumption, by assumption, by assumption, by assumption⟩)
          | (go_ret; exact ⟨by rw [HALL.out]; rfl, FA.out⟩)
    · have a1 : decide ((i : Int) < (l.length : Int)) = false := by simp; omega
      have hil : i = l.length := by omega
      subst hil
      have HA := Lib.hid hall.out
      clear hall
      go_wp2_with fail
      go_ret
      refine ⟨?_, hf⟩
      have := HA.out
      rw [List.take_length] at this
      rw [this]; rfl
end Go.Proofs.Ytkgjmfmnkcfabaa
