/- InstrForms: whether any instruction may be, and its form, are the document's; it stays: the law returns true for every two instructions. No condition. -/
import Derived.Test.YtkgjmfmnkcfabaaInstrBack
import Derived.Test.YtkgjmfmnkcfabaaRefMay
import Derived.Test.YtkgjmfmnkcfabaaIRefForm
namespace Go.Proofs.Ytkgjmfmnkcfabaa
open Go.RowKit

theorem nil_ins (w : World) : InsArg w (.slice none 0 0) [] := ⟨Rd.nil w 5, fun x hx => by cases hx⟩
theorem two_ins {w : World} {o n a t o' n' a' t' : Int} {A A' : Option Addr} {c c' : Nat} {d d' : List UInt8} (h : RdB w (.slice A d.length c) d) (h' : RdB w (.slice A' d'.length c') d') :
    InsArg (w.alloc (.cells #[.int .i64 o, .int .i64 n, .int .i64 a, .int .i64 t, .slice A d.length c, .int .i64 o', .int .i64 n', .int .i64 a', .int .i64 t', .slice A' d'.length c'] 25)) (.slice (some ⟨w.heap.size, 0, none⟩) 2 2) [⟨o, n, a, t, .slice A d.length c, d⟩, ⟨o', n', a', t', .slice A' d'.length c', d'⟩] := by
  refine ⟨⟨rfl, ⟨_, _, rfl, Nat.le_refl _, by unfold maxLen; simp, fun h => by cases h⟩, fun _ => ⟨w.heap.size, 0, 2, _, _, _, rfl, heap_alloc_new w _, fun j u hu => by simpa [insCells] using hu⟩⟩, fun x hx => ?_⟩
  simp only [List.mem_cons, List.not_mem_nil, or_false] at hx
  rcases hx with rfl | rfl
  · exact h.fr0 ((Fr0.refl w).alloc _)
  · exact h'.fr0 ((Fr0.refl w).alloc _)
theorem same2_any {xo xn xa xt yo yn ya yt : Int} {Ax Ay Ak : Option Addr} {cx cy ck g : Nat} {dx dy : List UInt8} {w : World} (hx : RdB w (.slice Ax dx.length cx) dx) (hk : RdB w (.slice Ak dx.length ck) dx) (hy : RdB w (.slice Ay dy.length cy) dy) (hg : g = w.heap.size) :
    Calls Try.prog 14 #[.agg #[.int .i64 xo, .int .i64 xn, .int .i64 xa, .int .i64 xt, .slice Ax dx.length cx], .slice (some ⟨g, 0, none⟩) 2 2] (w.alloc (.cells #[.int .i64 xo, .int .i64 xn, .int .i64 xa, .int .i64 xt, .slice Ak dx.length ck, .int .i64 yo, .int .i64 yn, .int .i64 ya, .int .i64 yt, .slice Ay dy.length cy] 25)) fun e w' => e = .returned (.bool (alike xo xn xa xt dx yo yn ya yt dy)) ∧ Fr0 w w' := by
  subst hg
  refine (same_any (x := ⟨xo, xn, xa, xt, .slice Ax dx.length cx, dx⟩) (hx.fr0 ((Fr0.refl w).alloc _)) (two_ins hk hy)).mono ?_
  rintro e w' ⟨rfl, hf⟩
  exact ⟨by simp [alikeI, alike], Fr0.trans ((Fr0.refl w).alloc _) hf⟩
theorem sameN_any {xo xn xa xt : Int} {Ax : Option Addr} {cx : Nat} {dx : List UInt8} {w : World} (hx : RdB w (.slice Ax dx.length cx) dx) :
    Calls Try.prog 14 #[.agg #[.int .i64 xo, .int .i64 xn, .int .i64 xa, .int .i64 xt, .slice Ax dx.length cx], .slice none 0 0] w fun e w' => e = .returned (.bool true) ∧ Fr0 w w' := by
  refine (same_any (x := ⟨xo, xn, xa, xt, .slice Ax dx.length cx, dx⟩) hx (nil_ins w)).mono ?_
  rintro e w' ⟨rfl, hf⟩
  exact ⟨by simp, hf⟩

set_option maxHeartbeats 8000000 in
set_option maxRecDepth 100000 in
theorem instrForms_any {xo xn xa xt yo yn ya yt : Int} {xv yv : Value} {dx dy : List UInt8} {w : World} (hx : RdB w xv dx) (hy : RdB w yv dy) :
    Calls Try.prog 4 #[.agg #[.int .i64 xo, .int .i64 xn, .int .i64 xa, .int .i64 xt, xv], .agg #[.int .i64 yo, .int .i64 yn, .int .i64 ya, .int .i64 yt, yv]] w fun e w' => e = .returned (.bool true) ∧ Fr0 w w' := by
  obtain ⟨Ax, cx, rfl, hnx, -, -⟩ := hx.form
  obtain ⟨Ay, cy, rfl, hny, -, -⟩ := hy.form
  have x63 := hx.le63
  have y63 := hy.le63
  have KN := Lib.hid (known22_any ((w.alloc (.cells #[.int .i64 xo, .int .i64 xn, .int .i64 xa, .int .i64 xt, .slice Ax dx.length cx] 25)).alloc (.cells #[.int .i64 yo, .int .i64 yn, .int .i64 ya, .int .i64 yt, .slice Ay dy.length cy] 25)))
  have BX0 := Lib.hid (Blk.alloc (Blk.new w #[.int .i64 xo, .int .i64 xn, .int .i64 xa, .int .i64 xt, .slice Ax dx.length cx] 25) (.cells #[.int .i64 yo, .int .i64 yn, .int .i64 ya, .int .i64 yt, .slice Ay dy.length cy] 25))
  have BY0 := Lib.hid (show Blk ((w.alloc (.cells #[.int .i64 xo, .int .i64 xn, .int .i64 xa, .int .i64 xt, .slice Ax dx.length cx] 25)).alloc (.cells #[.int .i64 yo, .int .i64 yn, .int .i64 ya, .int .i64 yt, .slice Ay dy.length cy] 25)) (w.heap.size + 1) #[.int .i64 yo, .int .i64 yn, .int .i64 ya, .int .i64 yt, .slice Ay dy.length cy] 25 by
    have := Blk.new (w.alloc (.cells #[.int .i64 xo, .int .i64 xn, .int .i64 xa, .int .i64 xt, .slice Ax dx.length cx] 25)) #[.int .i64 yo, .int .i64 yn, .int .i64 ya, .int .i64 yt, .slice Ay dy.length cy] 25
    simpa using this)
  by_cases hx2 : 70000 < dx.length
  · have q0 : decide (70000 < (dx.length : Int)) = true := by simp; omega
    have q1 : decide (70000 < dx.length) = true := by simpa using hx2
    clear hx hy
    go_enter Try.func4, Try.ntmps4
    go_wp2_with (go_at_call 7; refine (KN.out).mono ?_; rintro e w1 ⟨rfl, hf⟩; have F := Lib.hid (Fr0.trans (((Fr0.refl w).alloc _).alloc _) hf); have BX := Lib.hid ((BX0.out).fr0 hf); have BY := Lib.hid ((BY0.out).fr0 hf); have x0 : (w1).cell? ⟨w.heap.size, 0, none⟩ = some (.int .i64 xo) := (BX.out).cell 0 rfl; have x1 : (w1).cell? ⟨w.heap.size, 1, none⟩ = some (.int .i64 xn) := (BX.out).cell 1 rfl; have x2 : (w1).cell? ⟨w.heap.size, 2, none⟩ = some (.int .i64 xa) := (BX.out).cell 2 rfl; have x3 : (w1).cell? ⟨w.heap.size, 3, none⟩ = some (.int .i64 xt) := (BX.out).cell 3 rfl; have x4 : (w1).cell? ⟨w.heap.size, 4, none⟩ = some (.slice Ax dx.length cx) := (BX.out).cell 4 rfl; have y0 : (w1).cell? ⟨w.heap.size + 1, 0, none⟩ = some (.int .i64 yo) := (BY.out).cell 0 rfl; have y1 : (w1).cell? ⟨w.heap.size + 1, 1, none⟩ = some (.int .i64 yn) := (BY.out).cell 1 rfl; have y2 : (w1).cell? ⟨w.heap.size + 1, 2, none⟩ = some (.int .i64 ya) := (BY.out).cell 2 rfl; have y3 : (w1).cell? ⟨w.heap.size + 1, 3, none⟩ = some (.int .i64 yt) := (BY.out).cell 3 rfl; have y4 : (w1).cell? ⟨w.heap.size + 1, 4, none⟩ = some (.slice Ay dy.length cy) := (BY.out).cell 4 rfl; clear hf)
    go_ret
    exact ⟨rfl, F.out⟩
  by_cases hy2 : 70000 < dy.length
  · have q0 : decide (70000 < (dx.length : Int)) = false := by simp; omega
    have q1 : decide (70000 < dx.length) = false := by simpa using hx2
    have q2 : decide (70000 < (dy.length : Int)) = true := by simp; omega
    have q3 : decide (70000 < dy.length) = true := by simpa using hy2
    clear hx hy
    go_enter Try.func4, Try.ntmps4
    go_wp2_with (go_at_call 7; refine (KN.out).mono ?_; rintro e w1 ⟨rfl, hf⟩; have F := Lib.hid (Fr0.trans (((Fr0.refl w).alloc _).alloc _) hf); have BX := Lib.hid ((BX0.out).fr0 hf); have BY := Lib.hid ((BY0.out).fr0 hf); have x0 : (w1).cell? ⟨w.heap.size, 0, none⟩ = some (.int .i64 xo) := (BX.out).cell 0 rfl; have x1 : (w1).cell? ⟨w.heap.size, 1, none⟩ = some (.int .i64 xn) := (BX.out).cell 1 rfl; have x2 : (w1).cell? ⟨w.heap.size, 2, none⟩ = some (.int .i64 xa) := (BX.out).cell 2 rfl; have x3 : (w1).cell? ⟨w.heap.size, 3, none⟩ = some (.int .i64 xt) := (BX.out).cell 3 rfl; have x4 : (w1).cell? ⟨w.heap.size, 4, none⟩ = some (.slice Ax dx.length cx) := (BX.out).cell 4 rfl; have y0 : (w1).cell? ⟨w.heap.size + 1, 0, none⟩ = some (.int .i64 yo) := (BY.out).cell 0 rfl; have y1 : (w1).cell? ⟨w.heap.size + 1, 1, none⟩ = some (.int .i64 yn) := (BY.out).cell 1 rfl; have y2 : (w1).cell? ⟨w.heap.size + 1, 2, none⟩ = some (.int .i64 ya) := (BY.out).cell 2 rfl; have y3 : (w1).cell? ⟨w.heap.size + 1, 3, none⟩ = some (.int .i64 yt) := (BY.out).cell 3 rfl; have y4 : (w1).cell? ⟨w.heap.size + 1, 4, none⟩ = some (.slice Ay dy.length cy) := (BY.out).cell 4 rfl; clear hf)
    go_ret
    exact ⟨rfl, F.out⟩
  have q0 : decide (70000 < (dx.length : Int)) = false := by simp; omega
  have q1 : decide (70000 < dx.length) = false := by simpa using hx2
  have q2 : decide (70000 < (dy.length : Int)) = false := by simp; omega
  have q3 : decide (70000 < dy.length) = false := by simpa using hy2
  have hx3 : dx.length ≤ 70000 := by omega
  have X := Lib.hid hx
  have Y := Lib.hid hy
  clear hx hy hx2 hy2
  go_enter Try.func4, Try.ntmps4
  go_upto_region 7 with (first
    | (go_at_call 7; refine (KN.out).mono ?_; rintro e w1 ⟨rfl, hf⟩; have F := Lib.hid (Fr0.trans (((Fr0.refl w).alloc _).alloc _) hf); have BX := Lib.hid ((BX0.out).fr0 hf); have BY := Lib.hid ((BY0.out).fr0 hf); have x0 : (w1).cell? ⟨w.heap.size, 0, none⟩ = some (.int .i64 xo) := (BX.out).cell 0 rfl; have x1 : (w1).cell? ⟨w.heap.size, 1, none⟩ = some (.int .i64 xn) := (BX.out).cell 1 rfl; have x2 : (w1).cell? ⟨w.heap.size, 2, none⟩ = some (.int .i64 xa) := (BX.out).cell 2 rfl; have x3 : (w1).cell? ⟨w.heap.size, 3, none⟩ = some (.int .i64 xt) := (BX.out).cell 3 rfl; have x4 : (w1).cell? ⟨w.heap.size, 4, none⟩ = some (.slice Ax dx.length cx) := (BX.out).cell 4 rfl; have y0 : (w1).cell? ⟨w.heap.size + 1, 0, none⟩ = some (.int .i64 yo) := (BY.out).cell 0 rfl; have y1 : (w1).cell? ⟨w.heap.size + 1, 1, none⟩ = some (.int .i64 yn) := (BY.out).cell 1 rfl; have y2 : (w1).cell? ⟨w.heap.size + 1, 2, none⟩ = some (.int .i64 ya) := (BY.out).cell 2 rfl; have y3 : (w1).cell? ⟨w.heap.size + 1, 3, none⟩ = some (.int .i64 yt) := (BY.out).cell 3 rfl; have y4 : (w1).cell? ⟨w.heap.size + 1, 4, none⟩ = some (.slice Ay dy.length cy) := (BY.out).cell 4 rfl; have x4a : ((w1.alloc (.cells #[.int .i64 xo, .int .i64 xn, .int .i64 xa, .int .i64 xt, .slice Ax dx.length cx] 25)).alloc (.cells #[] 5)).cell? ⟨w.heap.size, 4, none⟩ = some (.slice Ax dx.length cx) := (((BX.out).alloc _).alloc _).cell 4 rfl; clear hf)
    | (at_builtin; have _q := x4a; refine app_bytes rfl _ _ rfl (L1 := []) (w0 := (w1.alloc (.cells #[.int .i64 xo, .int .i64 xn, .int .i64 xa, .int .i64 xt, .slice Ax dx.length cx] 25))) ((Fr0.refl (w1.alloc (.cells #[.int .i64 xo, .int .i64 xn, .int .i64 xa, .int .i64 xt, .slice Ax dx.length cx] 25))).alloc _) (own_empty (g := w1.heap.size + 1) (by have := heap_alloc_new (w1.alloc (.cells #[.int .i64 xo, .int .i64 xn, .int .i64 xa, .int .i64 xt, .slice Ax dx.length cx] 25)) (.cells #[] 5); simpa using this) (by simp)) (by rfl) ((X.out).fr0 (((F.out).alloc (.cells #[.int .i64 xo, .int .i64 xn, .int .i64 xa, .int .i64 xt, .slice Ax dx.length cx] 25)).alloc _)) (by rfl) (by omega) ?_; intro Ak ck w3 hown hf; rw [Nat.zero_add, List.nil_append] at hown; have K := Lib.hid hown; have H3 := Lib.hid hf; have z4 : w3.cell? ⟨w1.heap.size, 4, none⟩ = some (.slice Ax dx.length cx) := ((Blk.new w1 #[.int .i64 xo, .int .i64 xn, .int .i64 xa, .int .i64 xt, .slice Ax dx.length cx] 25).fr0 hf).cell 4 rfl; have zf4 : w3.frozen? ⟨w1.heap.size, 4, none⟩ = false := ((Blk.new w1 #[.int .i64 xo, .int .i64 xn, .int .i64 xa, .int .i64 xt, .slice Ax dx.length cx] 25).fr0 hf).free 4; clear hf hown))
  have ltx : w.heap.size < w1.heap.size := (BX.out).lt
  have lty : w.heap.size + 1 < w1.heap.size := (BY.out).lt
  have BZ3 := (Blk.new w1 #[.int .i64 xo, .int .i64 xn, .int .i64 xa, .int .i64 xt, .slice Ax dx.length cx] 25).fr0 H3.out
  have FW := Lib.hid (show Fr0 w (w3.setCell ⟨w1.heap.size, 4, none⟩ (.slice Ak dx.length ck)) from Fr.setCell (p := ⟨w1.heap.size, 4, none⟩) (((F.out).alloc (.cells #[.int .i64 xo, .int .i64 xn, .int .i64 xa, .int .i64 xt, .slice Ax dx.length cx] 25)).trans H3.out) (.inr (F.out).size) _)
  have BX4 := Lib.hid (Blk.other (Blk.fr0 ((BX.out).alloc (.cells #[.int .i64 xo, .int .i64 xn, .int .i64 xa, .int .i64 xt, .slice Ax dx.length cx] 25)) H3.out) (p := ⟨w1.heap.size, 4, none⟩) (Nat.ne_of_lt ltx) (.slice Ak dx.length ck))
  have BY4 := Lib.hid (Blk.other (Blk.fr0 ((BY.out).alloc (.cells #[.int .i64 xo, .int .i64 xn, .int .i64 xa, .int .i64 xt, .slice Ax dx.length cx] 25)) H3.out) (p := ⟨w1.heap.size, 4, none⟩) (Nat.ne_of_lt lty) (.slice Ak dx.length ck))
  have BZ4 := Lib.hid (show Blk (w3.setCell ⟨w1.heap.size, 4, none⟩ (.slice Ak dx.length ck)) w1.heap.size #[.int .i64 xo, .int .i64 xn, .int .i64 xa, .int .i64 xt, .slice Ak dx.length ck] 25 from BZ3.set 4 _)
  have K4 := Lib.hid (show RdB (w3.setCell ⟨w1.heap.size, 4, none⟩ (.slice Ak dx.length ck)) (.slice Ak dx.length ck) dx from RdB.of_own (own_fr (K.out) ((Fr1.refl w1.heap.size w3).set 4 _) (fun g hg e => own_ne (K.out) BZ3 (by decide) g hg e)))
  clear BX BY F K H3 z4 zf4 BZ3 ltx lty x4a x0 x1 x2 x3 x4 y0 y1 y2 y3 y4
  generalize (w3.setCell ⟨w1.heap.size, 4, none⟩ (.slice Ak dx.length ck)) = w4 at *
  generalize w1.heap.size = zb at *
  have z0 : (w4).cell? ⟨zb, 0, none⟩ = some (.int .i64 xo) := (BZ4.out).cell 0 rfl
  have z1 : (w4).cell? ⟨zb, 1, none⟩ = some (.int .i64 xn) := (BZ4.out).cell 1 rfl
  have z2 : (w4).cell? ⟨zb, 2, none⟩ = some (.int .i64 xa) := (BZ4.out).cell 2 rfl
  have z3 : (w4).cell? ⟨zb, 3, none⟩ = some (.int .i64 xt) := (BZ4.out).cell 3 rfl
  have z4 : (w4).cell? ⟨zb, 4, none⟩ = some (.slice Ak dx.length ck) := (BZ4.out).cell 4 rfl
  have x0 : (w4).cell? ⟨w.heap.size, 0, none⟩ = some (.int .i64 xo) := (BX4.out).cell 0 rfl
  have x1 : (w4).cell? ⟨w.heap.size, 1, none⟩ = some (.int .i64 xn) := (BX4.out).cell 1 rfl
  have x2 : (w4).cell? ⟨w.heap.size, 2, none⟩ = some (.int .i64 xa) := (BX4.out).cell 2 rfl
  have x3 : (w4).cell? ⟨w.heap.size, 3, none⟩ = some (.int .i64 xt) := (BX4.out).cell 3 rfl
  have x4 : (w4).cell? ⟨w.heap.size, 4, none⟩ = some (.slice Ax dx.length cx) := (BX4.out).cell 4 rfl
  have y0 : (w4).cell? ⟨w.heap.size + 1, 0, none⟩ = some (.int .i64 yo) := (BY4.out).cell 0 rfl
  have y1 : (w4).cell? ⟨w.heap.size + 1, 1, none⟩ = some (.int .i64 yn) := (BY4.out).cell 1 rfl
  have y2 : (w4).cell? ⟨w.heap.size + 1, 2, none⟩ = some (.int .i64 ya) := (BY4.out).cell 2 rfl
  have y3 : (w4).cell? ⟨w.heap.size + 1, 3, none⟩ = some (.int .i64 yt) := (BY4.out).cell 3 rfl
  have y4 : (w4).cell? ⟨w.heap.size + 1, 4, none⟩ = some (.slice Ay dy.length cy) := (BY4.out).cell 4 rfl
  have HM := Lib.hid (fun (A : Option Addr) (c : Nat) (w' : World) => may_any xo xn xa xt A dx.length c w')
  have HRM := Lib.hid (fun (A : Option Addr) (c : Nat) (w' : World) => rmay_any xo xn xa xt A dx.length c w')
  have HF := Lib.hid (fun (h : may xo xn xa xt dx.length = 0) => iform_good K4.out h)
  have HFB := Lib.hid (fun (h : may xo xn xa xt dx.length ≠ 0) => iform_bad (A := Ak) (c := ck) (w := w4) h)
  have HRF := Lib.hid (fun (h : may xo xn xa xt dx.length = 0) (w' : World) (hr : RdB w' (.slice Ax dx.length cx) dx) => refIForm_any hr h)
  have tf := strI (iForm xo xn xa xt dx)
  obtain ⟨fx, hfx⟩ : ∃ f, f = iForm xo xn xa xt dx := ⟨_, rfl⟩
  rw [← hfx] at HF HRF tf
  obtain ⟨m, hm⟩ : ∃ m, m = may xo xn xa xt dx.length := ⟨_, rfl⟩
  rw [← hm] at HM HRM HF HFB HRF
  obtain ⟨al, hal⟩ : ∃ al, al = alike xo xn xa xt dx yo yn ya yt dy := ⟨_, rfl⟩
  have HAL := Lib.hid hal
  clear hfx hm hal
  by_cases hm0 : m = 0
  · subst hm0
    go_upto_region 8 with (go_at_call 11; refine (HF.out rfl).mono ?_; rintro e w5 ⟨v, rfl, hown, hf⟩; obtain ⟨A5, c5, rfl, hr, -⟩ := own_text hown; have P := Lib.hid hr; have G5 := Lib.hid hf; clear hf hown hr)
    clear z0 z1 z2 z3 z4 x0 x1 x2 x3 x4 y0 y1 y2 y3 y4
    have Q := Lib.hid ((Fr0.refl w5).drew)
    go_cut [73] (fun sx wx => sx = .bool false ∧ Fr0 w5 wx)
    case first =>
      go_region_held_law (fun w' => w'.cell? ⟨zb, 0, none⟩ = some (.int .i64 xo) ∧ w'.cell? ⟨zb, 1, none⟩ = some (.int .i64 xn) ∧ w'.cell? ⟨zb, 2, none⟩ = some (.int .i64 xa) ∧ w'.cell? ⟨zb, 3, none⟩ = some (.int .i64 xt) ∧ w'.cell? ⟨zb, 4, none⟩ = some (.slice Ak dx.length ck) ∧ w'.cell? ⟨w.heap.size, 0, none⟩ = some (.int .i64 xo) ∧ w'.cell? ⟨w.heap.size, 1, none⟩ = some (.int .i64 xn) ∧ w'.cell? ⟨w.heap.size, 2, none⟩ = some (.int .i64 xa) ∧ w'.cell? ⟨w.heap.size, 3, none⟩ = some (.int .i64 xt) ∧ w'.cell? ⟨w.heap.size, 4, none⟩ = some (.slice Ax dx.length cx) ∧ w'.cell? ⟨w.heap.size + 1, 0, none⟩ = some (.int .i64 yo) ∧ w'.cell? ⟨w.heap.size + 1, 1, none⟩ = some (.int .i64 yn) ∧ w'.cell? ⟨w.heap.size + 1, 2, none⟩ = some (.int .i64 ya) ∧ w'.cell? ⟨w.heap.size + 1, 3, none⟩ = some (.int .i64 yt) ∧ w'.cell? ⟨w.heap.size + 1, 4, none⟩ = some (.slice Ay dy.length cy)) (first | exact ⟨((BZ4.out).fr0 ((G5.out).trans Q.out)).cell 0 rfl, ((BZ4.out).fr0 ((G5.out).trans Q.out)).cell 1 rfl, ((BZ4.out).fr0 ((G5.out).trans Q.out)).cell 2 rfl, ((BZ4.out).fr0 ((G5.out).trans Q.out)).cell 3 rfl, ((BZ4.out).fr0 ((G5.out).trans Q.out)).cell 4 rfl, ((BX4.out).fr0 ((G5.out).trans Q.out)).cell 0 rfl, ((BX4.out).fr0 ((G5.out).trans Q.out)).cell 1 rfl, ((BX4.out).fr0 ((G5.out).trans Q.out)).cell 2 rfl, ((BX4.out).fr0 ((G5.out).trans Q.out)).cell 3 rfl, ((BX4.out).fr0 ((G5.out).trans Q.out)).cell 4 rfl, ((BY4.out).fr0 ((G5.out).trans Q.out)).cell 0 rfl, ((BY4.out).fr0 ((G5.out).trans Q.out)).cell 1 rfl, ((BY4.out).fr0 ((G5.out).trans Q.out)).cell 2 rfl, ((BY4.out).fr0 ((G5.out).trans Q.out)).cell 3 rfl, ((BY4.out).fr0 ((G5.out).trans Q.out)).cell 4 rfl⟩ | exact ⟨(((BZ4.out).fr0 ((G5.out).trans Q.out)).alloc _).cell 0 rfl, (((BZ4.out).fr0 ((G5.out).trans Q.out)).alloc _).cell 1 rfl, (((BZ4.out).fr0 ((G5.out).trans Q.out)).alloc _).cell 2 rfl, (((BZ4.out).fr0 ((G5.out).trans Q.out)).alloc _).cell 3 rfl, (((BZ4.out).fr0 ((G5.out).trans Q.out)).alloc _).cell 4 rfl, (((BX4.out).fr0 ((G5.out).trans Q.out)).alloc _).cell 0 rfl, (((BX4.out).fr0 ((G5.out).trans Q.out)).alloc _).cell 1 rfl, (((BX4.out).fr0 ((G5.out).trans Q.out)).alloc _).cell 2 rfl, (((BX4.out).fr0 ((G5.out).trans Q.out)).alloc _).cell 3 rfl, (((BX4.out).fr0 ((G5.out).trans Q.out)).alloc _).cell 4 rfl, (((BY4.out).fr0 ((G5.out).trans Q.out)).alloc _).cell 0 rfl, (((BY4.out).fr0 ((G5.out).trans Q.out)).alloc _).cell 1 rfl, (((BY4.out).fr0 ((G5.out).trans Q.out)).alloc _).cell 2 rfl, (((BY4.out).fr0 ((G5.out).trans Q.out)).alloc _).cell 3 rfl, (((BY4.out).fr0 ((G5.out).trans Q.out)).alloc _).cell 4 rfl⟩) (first
        | (go_at_call 12; refine (HM.out _ _ _).mono ?_; rintro e w6 ⟨rfl, hf⟩; replace Q := Lib.hid ((Q.out).trans hf); clear hf)
        | (go_at_call 13; refine (HRM.out _ _ _).mono ?_; rintro e w6 ⟨rfl, hf⟩; replace Q := Lib.hid ((Q.out).trans hf); clear hf)
        | (have _q := U1; go_at_call 10; refine (refSame_any ((X.out).fr0 ((FW.out).trans ((G5.out).trans Q.out))) ((Y.out).fr0 ((FW.out).trans ((G5.out).trans Q.out)))).mono ?_; rintro e w6 ⟨he, hf⟩; rw [← HAL.out] at he; subst he; replace Q := Lib.hid ((Q.out).trans hf); clear hf)
        | (go_at_call 10; refine (refSame_any ((K4.out).fr0 ((G5.out).trans Q.out)) ((X.out).fr0 ((FW.out).trans ((G5.out).trans Q.out)))).mono ?_; rintro e w6 ⟨he, hf⟩; rw [alike_self] at he; subst he; have U1 := Lib.hid True.intro; replace Q := Lib.hid ((Q.out).trans hf); clear hf)
        | (have _q := V2; go_at_call 14; refine (sameN_any ((X.out).fr0 ((FW.out).trans ((G5.out).trans Q.out)))).mono ?_; rintro e w6 ⟨rfl, hf⟩; replace Q := Lib.hid ((Q.out).trans hf); clear hf)
        | (have _q := V1; go_at_call 14; refine (same2_any ((X.out).fr0 ((FW.out).trans ((G5.out).trans Q.out))) ((K4.out).fr0 ((G5.out).trans Q.out)) ((Y.out).fr0 ((FW.out).trans ((G5.out).trans Q.out))) rfl).mono ?_; rintro e w6 ⟨he, hf⟩; rw [← HAL.out] at he; subst he; have V2 := Lib.hid True.intro; replace Q := Lib.hid ((Q.out).trans hf); clear hf)
        | (go_at_call 14; refine (same1_any ((X.out).fr0 ((FW.out).trans ((G5.out).trans Q.out))) ((Y.out).fr0 ((FW.out).trans ((G5.out).trans Q.out))) rfl).mono ?_; rintro e w6 ⟨he, hf⟩; rw [← HAL.out] at he; subst he; have V1 := Lib.hid True.intro; replace Q := Lib.hid ((Q.out).trans hf); clear hf))
      all_goals (go_wp2_with fail; go_meet; exact ⟨rfl, Q.out⟩)
    case rest =>
      obtain ⟨rfl, hq⟩ := hcut
      clear Q
      have Q2 := Lib.hid hq
      clear hq
      go_wp2_with fail
      have Q := Lib.hid ((Fr0.refl w5).trans ((Q2.out).drew))
      go_region_held_law (fun w' => (convert 22 9 (.slice A5 fx.length c5)).run Try.prog w' = .ok (.string (str fx)) w' ∧ w'.cell? ⟨w.heap.size, 0, none⟩ = some (.int .i64 xo) ∧ w'.cell? ⟨w.heap.size, 1, none⟩ = some (.int .i64 xn) ∧ w'.cell? ⟨w.heap.size, 2, none⟩ = some (.int .i64 xa) ∧ w'.cell? ⟨w.heap.size, 3, none⟩ = some (.int .i64 xt) ∧ w'.cell? ⟨w.heap.size, 4, none⟩ = some (.slice Ax dx.length cx)) (first | exact ⟨conv_own ((P.out).fr0 Q.out), ((BX4.out).fr0 ((G5.out).trans Q.out)).cell 0 rfl, ((BX4.out).fr0 ((G5.out).trans Q.out)).cell 1 rfl, ((BX4.out).fr0 ((G5.out).trans Q.out)).cell 2 rfl, ((BX4.out).fr0 ((G5.out).trans Q.out)).cell 3 rfl, ((BX4.out).fr0 ((G5.out).trans Q.out)).cell 4 rfl⟩) (first
        | (go_at_call 15; refine (HRF.out (by first | trivial | rfl) _ ((X.out).fr0 ((FW.out).trans ((G5.out).trans Q.out)))).mono ?_; rintro e w7 ⟨v, rfl, hown, hf⟩; obtain ⟨A7, c7, rfl, hr7, hc7⟩ := own_text hown; replace Q := Lib.hid ((Q.out).trans hf); clear hf hown hr7))
      all_goals (go_wp2_with fail; go_ret; exact ⟨rfl, (FW.out).trans ((G5.out).trans Q.out)⟩)
  · have b0 : (m != 0) = true := by simpa using hm0
    have b1 : (m != m) = false := by simp
    have M0 := Lib.hid hm0
    clear hm0
    go_upto_region 8 with (go_at_call 11; refine (HFB.out M0.out).mono ?_; rintro e w5 ⟨rfl, hf⟩; have G5 := Lib.hid hf; clear hf)
    clear z0 z1 z2 z3 z4 x0 x1 x2 x3 x4 y0 y1 y2 y3 y4
    have Q := Lib.hid ((Fr0.refl w5).drew)
    go_cut [73] (fun sx wx => sx = .bool false ∧ Fr0 w5 wx)
    case first =>
      go_region_held_law (fun w' => w'.cell? ⟨zb, 0, none⟩ = some (.int .i64 xo) ∧ w'.cell? ⟨zb, 1, none⟩ = some (.int .i64 xn) ∧ w'.cell? ⟨zb, 2, none⟩ = some (.int .i64 xa) ∧ w'.cell? ⟨zb, 3, none⟩ = some (.int .i64 xt) ∧ w'.cell? ⟨zb, 4, none⟩ = some (.slice Ak dx.length ck) ∧ w'.cell? ⟨w.heap.size, 0, none⟩ = some (.int .i64 xo) ∧ w'.cell? ⟨w.heap.size, 1, none⟩ = some (.int .i64 xn) ∧ w'.cell? ⟨w.heap.size, 2, none⟩ = some (.int .i64 xa) ∧ w'.cell? ⟨w.heap.size, 3, none⟩ = some (.int .i64 xt) ∧ w'.cell? ⟨w.heap.size, 4, none⟩ = some (.slice Ax dx.length cx) ∧ w'.cell? ⟨w.heap.size + 1, 0, none⟩ = some (.int .i64 yo) ∧ w'.cell? ⟨w.heap.size + 1, 1, none⟩ = some (.int .i64 yn) ∧ w'.cell? ⟨w.heap.size + 1, 2, none⟩ = some (.int .i64 ya) ∧ w'.cell? ⟨w.heap.size + 1, 3, none⟩ = some (.int .i64 yt) ∧ w'.cell? ⟨w.heap.size + 1, 4, none⟩ = some (.slice Ay dy.length cy)) (first | exact ⟨((BZ4.out).fr0 ((G5.out).trans Q.out)).cell 0 rfl, ((BZ4.out).fr0 ((G5.out).trans Q.out)).cell 1 rfl, ((BZ4.out).fr0 ((G5.out).trans Q.out)).cell 2 rfl, ((BZ4.out).fr0 ((G5.out).trans Q.out)).cell 3 rfl, ((BZ4.out).fr0 ((G5.out).trans Q.out)).cell 4 rfl, ((BX4.out).fr0 ((G5.out).trans Q.out)).cell 0 rfl, ((BX4.out).fr0 ((G5.out).trans Q.out)).cell 1 rfl, ((BX4.out).fr0 ((G5.out).trans Q.out)).cell 2 rfl, ((BX4.out).fr0 ((G5.out).trans Q.out)).cell 3 rfl, ((BX4.out).fr0 ((G5.out).trans Q.out)).cell 4 rfl, ((BY4.out).fr0 ((G5.out).trans Q.out)).cell 0 rfl, ((BY4.out).fr0 ((G5.out).trans Q.out)).cell 1 rfl, ((BY4.out).fr0 ((G5.out).trans Q.out)).cell 2 rfl, ((BY4.out).fr0 ((G5.out).trans Q.out)).cell 3 rfl, ((BY4.out).fr0 ((G5.out).trans Q.out)).cell 4 rfl⟩ | exact ⟨(((BZ4.out).fr0 ((G5.out).trans Q.out)).alloc _).cell 0 rfl, (((BZ4.out).fr0 ((G5.out).trans Q.out)).alloc _).cell 1 rfl, (((BZ4.out).fr0 ((G5.out).trans Q.out)).alloc _).cell 2 rfl, (((BZ4.out).fr0 ((G5.out).trans Q.out)).alloc _).cell 3 rfl, (((BZ4.out).fr0 ((G5.out).trans Q.out)).alloc _).cell 4 rfl, (((BX4.out).fr0 ((G5.out).trans Q.out)).alloc _).cell 0 rfl, (((BX4.out).fr0 ((G5.out).trans Q.out)).alloc _).cell 1 rfl, (((BX4.out).fr0 ((G5.out).trans Q.out)).alloc _).cell 2 rfl, (((BX4.out).fr0 ((G5.out).trans Q.out)).alloc _).cell 3 rfl, (((BX4.out).fr0 ((G5.out).trans Q.out)).alloc _).cell 4 rfl, (((BY4.out).fr0 ((G5.out).trans Q.out)).alloc _).cell 0 rfl, (((BY4.out).fr0 ((G5.out).trans Q.out)).alloc _).cell 1 rfl, (((BY4.out).fr0 ((G5.out).trans Q.out)).alloc _).cell 2 rfl, (((BY4.out).fr0 ((G5.out).trans Q.out)).alloc _).cell 3 rfl, (((BY4.out).fr0 ((G5.out).trans Q.out)).alloc _).cell 4 rfl⟩) (first
        | (go_at_call 12; refine (HM.out _ _ _).mono ?_; rintro e w6 ⟨rfl, hf⟩; replace Q := Lib.hid ((Q.out).trans hf); clear hf)
        | (go_at_call 13; refine (HRM.out _ _ _).mono ?_; rintro e w6 ⟨rfl, hf⟩; replace Q := Lib.hid ((Q.out).trans hf); clear hf)
        | (have _q := U1; go_at_call 10; refine (refSame_any ((X.out).fr0 ((FW.out).trans ((G5.out).trans Q.out))) ((Y.out).fr0 ((FW.out).trans ((G5.out).trans Q.out)))).mono ?_; rintro e w6 ⟨he, hf⟩; rw [← HAL.out] at he; subst he; replace Q := Lib.hid ((Q.out).trans hf); clear hf)
        | (go_at_call 10; refine (refSame_any ((K4.out).fr0 ((G5.out).trans Q.out)) ((X.out).fr0 ((FW.out).trans ((G5.out).trans Q.out)))).mono ?_; rintro e w6 ⟨he, hf⟩; rw [alike_self] at he; subst he; have U1 := Lib.hid True.intro; replace Q := Lib.hid ((Q.out).trans hf); clear hf)
        | (have _q := V2; go_at_call 14; refine (sameN_any ((X.out).fr0 ((FW.out).trans ((G5.out).trans Q.out)))).mono ?_; rintro e w6 ⟨rfl, hf⟩; replace Q := Lib.hid ((Q.out).trans hf); clear hf)
        | (have _q := V1; go_at_call 14; refine (same2_any ((X.out).fr0 ((FW.out).trans ((G5.out).trans Q.out))) ((K4.out).fr0 ((G5.out).trans Q.out)) ((Y.out).fr0 ((FW.out).trans ((G5.out).trans Q.out))) rfl).mono ?_; rintro e w6 ⟨he, hf⟩; rw [← HAL.out] at he; subst he; have V2 := Lib.hid True.intro; replace Q := Lib.hid ((Q.out).trans hf); clear hf)
        | (go_at_call 14; refine (same1_any ((X.out).fr0 ((FW.out).trans ((G5.out).trans Q.out))) ((Y.out).fr0 ((FW.out).trans ((G5.out).trans Q.out))) rfl).mono ?_; rintro e w6 ⟨he, hf⟩; rw [← HAL.out] at he; subst he; have V1 := Lib.hid True.intro; replace Q := Lib.hid ((Q.out).trans hf); clear hf))
      all_goals (go_wp2_with fail; go_meet; exact ⟨rfl, Q.out⟩)
    case rest =>
      obtain ⟨rfl, hq⟩ := hcut
      clear Q
      have Q2 := Lib.hid hq
      clear hq
      go_wp2_with fail
      go_ret
      exact ⟨rfl, (FW.out).trans ((G5.out).trans Q2.out)⟩

namespace InstrForms
open Go.ChangeShapes Go.WideShapes Go.ChangeAt
open Go.ChangeMaps (open_string shut_string)

theorem own : ownKnob Try.prog.godebug = none := by kernel_rfl
theorem laidOut : laidOutB Try.prog = true := by kernel_rfl

set_option maxRecDepth 100000 in
theorem lifted (os : Os) (started : os.Started) (H : Type) (enc : TypeId × Value → H) :
    ReturnsInHanded {} Try.checked os 4 .any (Rows.instrFormsSpec.pre6 enc Try.prog Try.f4 Rows.instrFormsRow.domain false) (Rows.instrFormsSpec.post enc Try.prog Try.f4 false true false false) := by
  refine returnsInHanded_of_change (C := Try.checked) own started (by kernel_rfl) Try.func4
    (ChangeSpec.witness6 (enc := enc) (C := Try.checked) false ⟨#[], #[.agg #[.int .i64 0, .int .i64 0, .int .i64 0, .int .i64 0, .slice none 0 0], .agg #[.int .i64 0, .int .i64 0, .int .i64 0, .int .i64 0, .slice none 0 0]], []⟩ 8 (by kernel_rfl) (by kernel_rfl) (by kernel_rfl) (by kernel_rfl)) ?_
  intro W base args ds gs before hval0 hW hcnd _
  have hval : ∀ (j : Nat) t v, Try.f4.params[j]? = some t → args[j]? = some v → Value.okWide Try.prog W .any base t v := hval0
  have hW' := hW
  obtain ⟨p, q, hA0, hV, rfl, hfz, hnd⟩ := hW
  have hA : DataW.TrodAll enc Try.prog W 0 (fun _ => true) true Try.f4.params.toList args.toList ds p := hA0
  rw [Try.params4] at hA hval
  obtain ⟨v0, vs0, d0', ds0, p0, q0, hargs, rfl, rfl, h0, r0⟩ := trodAll_cons hA
  obtain ⟨v1, vs1, d1', ds1, p1, q1, rfl, rfl, rfl, h1, r1⟩ := trodAll_cons r0
  obtain ⟨rfl, rfl, rfl⟩ := trodAll_nil r1
  obtain rfl : args = #[v0, v1] := by cases args; simp_all
  obtain ⟨rfl, rfl⟩ := trodVars_none hV
  have k0 := h0
  have lt0 : ∀ x ∈ p0, x.block < W.heap.size := by obtain ⟨m, hm⟩ := k0; exact DataW.trod_lt m _ _ _ hm
  obtain ⟨y0, rfl, hy0⟩ := arg_instr (tb := 22) (eb := 5) Try.underlying25 (by kernel_rfl) (by kernel_rfl)
    (fun j hj => by rcases (by omega : j = 0 ∨ j = 1 ∨ j = 2 ∨ j = 3) with rfl | rfl | rfl | rfl <;> exact ⟨_, rfl, Try.underlying3⟩) ⟨_, rfl, rfl⟩ Try.underlying22 Try.underlying5 (by kernel_rfl) (hval 0 25 v0 rfl rfl) h0
  have k1 := h1
  have lt1 : ∀ x ∈ p1, x.block < W.heap.size := by obtain ⟨m, hm⟩ := k1; exact DataW.trod_lt m _ _ _ hm
  obtain ⟨y1, rfl, hy1⟩ := arg_instr (tb := 22) (eb := 5) Try.underlying25 (by kernel_rfl) (by kernel_rfl)
    (fun j hj => by rcases (by omega : j = 0 ∨ j = 1 ∨ j = 2 ∨ j = 3) with rfl | rfl | rfl | rfl <;> exact ⟨_, rfl, Try.underlying3⟩) ⟨_, rfl, rfl⟩ Try.underlying22 Try.underlying5 (by kernel_rfl) (hval 1 25 v1 rfl rfl) h1
  clear hA0 hval0
  refine (instrForms_any hy0 hy1).mono fun e W' ⟨he, hfr⟩ => ?_
  have bel : Below W.heap.size W W' := Fr0.below hfr
  subst he
  exact ⟨_, rfl, _, _, _, [], _, [], hW', trodAll_mk1 (shut_bool Try.underlying4 _), (trodAll_cons_mk (Below.trod laidOut (by kernel_rfl) (of_decide_eq_true (by kernel_rfl)) k0 bel lt0) (trodAll_cons_mk (Below.trod laidOut (by kernel_rfl) (of_decide_eq_true (by kernel_rfl)) k1 bel lt1) trodAll_mk0)), rfl, bel.frame _, fun h => by cases h⟩

theorem over : Rows.instrFormsRow.holds Try.pinned (OpenSpec.ofChange Rows.instrFormsSpec) :=
  OpenClaim.holds_of_wide 4 Try.f4 rfl rfl rfl rfl rfl rfl rfl ⟨rfl, rfl, rfl, rfl, rfl⟩ rfl rfl rfl rfl rfl (by kernel_rfl) Try.func4 (by kernel_rfl)
    (of_decide_eq_true (by kernel_rfl)) (by unfold Func.isWrapper; first | (rw [if_pos (by decide +kernel)]; kernel_rfl) | (rw [if_neg (by decide +kernel)]; exact ⟨rfl, rfl⟩))
    (fun os started H enc _ => lifted os started H enc)

theorem proved : Rows.InstrFormsSaid := over
#print axioms proved
end InstrForms
end Go.Proofs.Ytkgjmfmnkcfabaa
