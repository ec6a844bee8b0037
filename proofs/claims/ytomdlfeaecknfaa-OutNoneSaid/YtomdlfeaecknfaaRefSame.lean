/- The reference's Same of instructions. Conditions stand in the statements. -/
import Derived.Test.YtomdlfeaecknfaaOwn
import Derived.Test.YtomdlfeaecknfaaArgs
import Derived.WalkKit
import Derived.WalkSpells
import Derived.BigQuiet
import Derived.Lib.Hide
import Derived.Handy
namespace Go.Proofs.Ytomdlfeaecknfaa
open Go.RowKit

/-- Whether two instructions are alike. -/
def alike (xo xn xa xt : Int) (dx : List UInt8) (yo yn ya yt : Int) (dy : List UInt8) : Bool := decide (xo = yo ∧ xn = yn ∧ xa = ya ∧ xt = yt ∧ dx = dy)

set_option maxHeartbeats 400000 in
theorem refSame_any {xo xn xa xt yo yn ya yt : Int} {vx vy : Value} {dx dy : List UInt8} {w : World} (hx : RdB w vx dx) (hy : RdB w vy dy) :
    Calls Try.prog 19 #[.agg #[.int .i64 xo, .int .i64 xn, .int .i64 xa, .int .i64 xt, vx], .agg #[.int .i64 yo, .int .i64 yn, .int .i64 ya, .int .i64 yt, vy]] w fun e w' => e = .returned (.bool (alike xo xn xa xt dx yo yn ya yt dy)) ∧ Fr0 w w' := by
  obtain ⟨Ax, cx, rfl, -, -, -⟩ := hx.form
  obtain ⟨Ay, cy, rfl, -, -, -⟩ := hy.form
  have hf : Fr0 w ((w.alloc (.cells #[.int .i64 xo, .int .i64 xn, .int .i64 xa, .int .i64 xt, .slice Ax dx.length cx] 37)).alloc (.cells #[.int .i64 yo, .int .i64 yn, .int .i64 ya, .int .i64 yt, .slice Ay dy.length cy] 37)) := ((Fr0.refl w).alloc _).alloc _
  have c1 := conv_own (hx.fr0 hf)
  have c2 := conv_own (hy.fr0 hf)
  have t1 := strI dx
  have t2 := strI dy
  have F := Lib.hid hf
  have hA : alike xo xn xa xt dx yo yn ya yt dy = decide (xo = yo ∧ xn = yn ∧ xa = ya ∧ xt = yt ∧ dx = dy) := rfl
  obtain ⟨r, hr⟩ : ∃ r, r = alike xo xn xa xt dx yo yn ya yt dy := ⟨_, rfl⟩
  rw [← hr] at hA ⊢
  clear hr hx hy hf
  by_cases e1 : xo = yo
  · have b1 : (xo == yo) = true := by simpa using e1
    by_cases e2 : xn = yn
    · have b2 : (xn == yn) = true := by simpa using e2
      by_cases e3 : xa = ya
      · have b3 : (xa == ya) = true := by simpa using e3
        by_cases e4 : xt = yt
        · have b4 : (xt == yt) = true := by simpa using e4
          by_cases e5 : dx = dy
          · have b5 : (dx == dy) = true := by simpa using e5
            have HR := Lib.hid (hA.trans (decide_eq_true ⟨e1, e2, e3, e4, e5⟩))
            clear e1 e2 e3 e4 e5 hA
            go_enter Try.func19, Try.ntmps19
            go_wp2_with fail
            go_ret
            exact ⟨by rw [HR.out]; rfl, F.out⟩
          · have b5 : (dx == dy) = false := by simpa using e5
            have HR := Lib.hid (hA.trans (decide_eq_false (fun h => e5 h.2.2.2.2)))
            clear e1 e2 e3 e4 e5 hA
            go_enter Try.func19, Try.ntmps19
            go_wp2_with fail
            go_ret
            exact ⟨by rw [HR.out]; rfl, F.out⟩
        · have b4 : (xt == yt) = false := by simpa using e4
          have HR := Lib.hid (hA.trans (decide_eq_false (fun h => e4 h.2.2.2.1)))
          clear e1 e2 e3 e4 hA
          go_enter Try.func19, Try.ntmps19
          go_wp2_with fail
          go_ret
          exact ⟨by rw [HR.out]; rfl, F.out⟩
      · have b3 : (xa == ya) = false := by simpa using e3
        have HR := Lib.hid (hA.trans (decide_eq_false (fun h => e3 h.2.2.1)))
        clear e1 e2 e3 hA
        go_enter Try.func19, Try.ntmps19
        go_wp2_with fail
        go_ret
        exact ⟨by rw [HR.out]; rfl, F.out⟩
    · have b2 : (xn == yn) = false := by simpa using e2
      have HR := Lib.hid (hA.trans (decide_eq_false (fun h => e2 h.2.1)))
      clear e1 e2 hA
      go_enter Try.func19, Try.ntmps19
      go_wp2_with fail
      go_ret
      exact ⟨by rw [HR.out]; rfl, F.out⟩
  · have b1 : (xo == yo) = false := by simpa using e1
    have HR := Lib.hid (hA.trans (decide_eq_false (fun h => e1 h.1)))
    clear e1 hA
    go_enter Try.func19, Try.ntmps19
    go_wp2_with fail
    go_ret
    exact ⟨by rw [HR.out]; rfl, F.out⟩

end Go.Proofs.Ytomdlfeaecknfaa
