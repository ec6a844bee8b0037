/- InstrApart: unlike instructions have unlike forms: the law returns true for every two instructions. No condition. -/
import Derived.Test.YtkgjmfmnkcfabaaInstrBack
namespace Go.Proofs.Ytkgjmfmnkcfabaa
open Go.RowKit

theorem form_inj {xo xn xa xt yo yn ya yt : Int} {dx dy : List UInt8} (hx : may xo xn xa xt dx.length = 0) (hy : may yo yn ya yt dy.length = 0) : (iForm xo xn xa xt dx == iForm yo yn ya yt dy) = alike xo xn xa xt dx yo yn ya yt dy := by
  rw [Bool.eq_iff_iff, beq_iff_eq, alike, decide_eq_true_eq]
  constructor
  · intro h
    obtain ⟨_, a1, a2, a3, a4, a5⟩ := iGood_form hx
    obtain ⟨_, b1, b2, b3, b4, b5⟩ := iGood_form hy
    rw [h] at a1 a2 a3 a4 a5
    exact ⟨a1.symm.trans b1, a2.symm.trans b2, a3.symm.trans b3, a4.symm.trans b4, a5.symm.trans b5⟩
  · rintro ⟨rfl, rfl, rfl, rfl, rfl⟩; rfl

set_option maxHeartbeats 2000000 in
set_option maxRecDepth 100000 in
theorem instrApart_any {xo xn xa xt yo yn ya yt : Int} {xv yv : Value} {dx dy : List UInt8} {w : World} (hx : RdB w xv dx) (hy : RdB w yv dy) :
    Calls Try.prog 6 #[.agg #[.int .i64 xo, .int .i64 xn, .int .i64 xa, .int .i64 xt, xv], .agg #[.int .i64 yo, .int .i64 yn, .int .i64 ya, .int .i64 yt, yv]] w fun e w' => e = .returned (.bool true) ∧ Fr0 w w' := by
  obtain ⟨Ax, cx, rfl, hnx, -, -⟩ := hx.form
  obtain ⟨Ay, cy, rfl, hny, -, -⟩ := hy.form
  have x63 := hx.le63
  have y63 := hy.le63
  have KN := Lib.hid (known22_any ((w.alloc (.cells #[.int .i64 xo, .int .i64 xn, .int .i64 xa, .int .i64 xt, .slice Ax dx.length cx] 25)).alloc (.cells #[.int .i64 yo, .int .i64 yn, .int .i64 ya, .int .i64 yt, .slice Ay dy.length cy] 25)))
  have BX0 := Lib.hid (Blk.alloc (Blk.new w #[.int .i64 xo, .int .i64 xn, .int .i64 xa, .int .i64 xt, .slice Ax dx.length cx] 25) (.cells #[.int .i64 yo, .int .i64 yn, .int .i64 ya, .int .i64 yt, .slice Ay dy.length cy] 25))
  have BY0 := Lib.hid (show Blk ((w.alloc (.cells #[.int .i64 xo, .int .i64 xn, .int .i64 xa, .int .i64 xt, .slice Ax dx.length cx] 25)).alloc (.cells #[.int .i64 yo, .int .i64 yn, .int .i64 ya, .int .i64 yt, .slice Ay dy.length cy] 25)) (w.heap.size + 1) #[.int .i64 yo, .int .i64 yn, .int .i64 ya, .int .i64 yt, .slice Ay dy.length cy] 25 by
    have := Blk.new (w.alloc (.cells #[.int .i64 xo, .int .i64 xn, .int .i64 xa, .int .i64 xt, .slice Ax dx.length cx] 25)) #[.int .i64 yo, .int .i64 yn, .int .i64 ya, .int .i64 yt, .slice Ay dy.length cy] 25
    simpa using this)
  by_cases hx2 : 3000 < dx.length
  · have q0 : decide (3000 < (dx.length : Int)) = true := by simp; omega
    have q1 : decide (3000 < dx.length) = true := by simpa using hx2
    clear hx hy
    go_enter Try.func6, Try.ntmps6
    go_wp2_with (go_at_call 7; refine (KN.out).mono ?_; rintro e w1 ⟨rfl, hf⟩; have F := Lib.hid (Fr0.trans (((Fr0.refl w).alloc _).alloc _) hf); have BX := Lib.hid ((BX0.out).fr0 hf); have BY := Lib.hid ((BY0.out).fr0 hf); have x0 : (w1).cell? ⟨w.heap.size, 0, none⟩ = some (.int .i64 xo) := (BX.out).cell 0 rfl; have x1 : (w1).cell? ⟨w.heap.size, 1, none⟩ = some (.int .i64 xn) := (BX.out).cell 1 rfl; have x2 : (w1).cell? ⟨w.heap.size, 2, none⟩ = some (.int .i64 xa) := (BX.out).cell 2 rfl; have x3 : (w1).cell? ⟨w.heap.size, 3, none⟩ = some (.int .i64 xt) := (BX.out).cell 3 rfl; have x4 : (w1).cell? ⟨w.heap.size, 4, none⟩ = some (.slice Ax dx.length cx) := (BX.out).cell 4 rfl; have y0 : (w1).cell? ⟨w.heap.size + 1, 0, none⟩ = some (.int .i64 yo) := (BY.out).cell 0 rfl; have y1 : (w1).cell? ⟨w.heap.size + 1, 1, none⟩ = some (.int .i64 yn) := (BY.out).cell 1 rfl; have y2 : (w1).cell? ⟨w.heap.size + 1, 2, none⟩ = some (.int .i64 ya) := (BY.out).cell 2 rfl; have y3 : (w1).cell? ⟨w.heap.size + 1, 3, none⟩ = some (.int .i64 yt) := (BY.out).cell 3 rfl; have y4 : (w1).cell? ⟨w.heap.size + 1, 4, none⟩ = some (.slice Ay dy.length cy) := (BY.out).cell 4 rfl; clear hf)
    go_ret
    exact ⟨rfl, F.out⟩
  by_cases hy2 : 3000 < dy.length
  · have q0 : decide (3000 < (dx.length : Int)) = false := by simp; omega
    have q1 : decide (3000 < dx.length) = false := by simpa using hx2
    have q2 : decide (3000 < (dy.length : Int)) = true := by simp; omega
    have q3 : decide (3000 < dy.length) = true := by simpa using hy2
    clear hx hy
    go_enter Try.func6, Try.ntmps6
    go_wp2_with (go_at_call 7; refine (KN.out).mono ?_; rintro e w1 ⟨rfl, hf⟩; have F := Lib.hid (Fr0.trans (((Fr0.refl w).alloc _).alloc _) hf); have BX := Lib.hid ((BX0.out).fr0 hf); have BY := Lib.hid ((BY0.out).fr0 hf); have x0 : (w1).cell? ⟨w.heap.size, 0, none⟩ = some (.int .i64 xo) := (BX.out).cell 0 rfl; have x1 : (w1).cell? ⟨w.heap.size, 1, none⟩ = some (.int .i64 xn) := (BX.out).cell 1 rfl; have x2 : (w1).cell? ⟨w.heap.size, 2, none⟩ = some (.int .i64 xa) := (BX.out).cell 2 rfl; have x3 : (w1).cell? ⟨w.heap.size, 3, none⟩ = some (.int .i64 xt) := (BX.out).cell 3 rfl; have x4 : (w1).cell? ⟨w.heap.size, 4, none⟩ = some (.slice Ax dx.length cx) := (BX.out).cell 4 rfl; have y0 : (w1).cell? ⟨w.heap.size + 1, 0, none⟩ = some (.int .i64 yo) := (BY.out).cell 0 rfl; have y1 : (w1).cell? ⟨w.heap.size + 1, 1, none⟩ = some (.int .i64 yn) := (BY.out).cell 1 rfl; have y2 : (w1).cell? ⟨w.heap.size + 1, 2, none⟩ = some (.int .i64 ya) := (BY.out).cell 2 rfl; have y3 : (w1).cell? ⟨w.heap.size + 1, 3, none⟩ = some (.int .i64 yt) := (BY.out).cell 3 rfl; have y4 : (w1).cell? ⟨w.heap.size + 1, 4, none⟩ = some (.slice Ay dy.length cy) := (BY.out).cell 4 rfl; clear hf)
    go_ret
    exact ⟨rfl, F.out⟩
  have q0 : decide (3000 < (dx.length : Int)) = false := by simp; omega
  have q1 : decide (3000 < dx.length) = false := by simpa using hx2
  have q2 : decide (3000 < (dy.length : Int)) = false := by simp; omega
  have q3 : decide (3000 < dy.length) = false := by simpa using hy2
  have X := Lib.hid hx
  have Y := Lib.hid hy
  have HMX := Lib.hid (may_any xo xn xa xt Ax dx.length cx)
  have HMY := Lib.hid (may_any yo yn ya yt Ay dy.length cy)
  have HFX := Lib.hid (fun (h : may xo xn xa xt dx.length = 0) (w' : World) (hr : RdB w' (.slice Ax dx.length cx) dx) => iform_good hr h)
  have HFY := Lib.hid (fun (h : may yo yn ya yt dy.length = 0) (w' : World) (hr : RdB w' (.slice Ay dy.length cy) dy) => iform_good hr h)
  have HBX := Lib.hid (fun (h : may xo xn xa xt dx.length ≠ 0) (w' : World) => iform_bad (A := Ax) (c := cx) (w := w') h)
  have HBY := Lib.hid (fun (h : may yo yn ya yt dy.length ≠ 0) (w' : World) => iform_bad (A := Ay) (c := cy) (w := w') h)
  have HI := Lib.hid (fun h1 h2 => form_inj (xo := xo) (xn := xn) (xa := xa) (xt := xt) (yo := yo) (yn := yn) (ya := ya) (yt := yt) (dx := dx) (dy := dy) h1 h2)
  have t1 := strI (iForm xo xn xa xt dx)
  have t2 := strI (iForm yo yn ya yt dy)
  have hLX := fun h => iForm_len (old := xo) (new := xn) (ack := xa) (trash := xt) (d := dx) h
  have hLY := fun h => iForm_len (old := yo) (new := yn) (ack := ya) (trash := yt) (d := dy) h
  clear hx hy hx2 hy2 hLX hLY
  obtain ⟨fx, hfx⟩ : ∃ f, f = iForm xo xn xa xt dx := ⟨_, rfl⟩
  obtain ⟨fy, hfy⟩ : ∃ f, f = iForm yo yn ya yt dy := ⟨_, rfl⟩
  obtain ⟨al, hal⟩ : ∃ al, al = alike xo xn xa xt dx yo yn ya yt dy := ⟨_, rfl⟩
  obtain ⟨mx, hmx⟩ : ∃ m, m = may xo xn xa xt dx.length := ⟨_, rfl⟩
  obtain ⟨my, hmy⟩ : ∃ m, m = may yo yn ya yt dy.length := ⟨_, rfl⟩
  rw [← hfx] at t1 HFX HI
  rw [← hfy] at t2 HFY HI
  rw [← hmx] at HMX HFX HBX HI
  rw [← hmy] at HMY HFY HBY HI
  rw [← hal] at HI
  have HAL := Lib.hid hal
  clear hfx hfy hmx hmy hal
  by_cases hmx0 : mx = 0
  · subst hmx0
    have GX := Lib.hid (rfl : (0 : Int) = 0)
    by_cases hmy0 : my = 0
    · subst hmy0
      have GY := Lib.hid (rfl : (0 : Int) = 0)
      have hfa := HI.out rfl rfl
      go_enter Try.func6, Try.ntmps6
      go_wp2_with (first
        | (go_at_call 7; refine (KN.out).mono ?_; rintro e w1 ⟨rfl, hf⟩; have F := Lib.hid (Fr0.trans (((Fr0.refl w).alloc _).alloc _) hf); have BX := Lib.hid ((BX0.out).fr0 hf); have BY := Lib.hid ((BY0.out).fr0 hf); have x0 : (w1).cell? ⟨w.heap.size, 0, none⟩ = some (.int .i64 xo) := (BX.out).cell 0 rfl; have x1 : (w1).cell? ⟨w.heap.size, 1, none⟩ = some (.int .i64 xn) := (BX.out).cell 1 rfl; have x2 : (w1).cell? ⟨w.heap.size, 2, none⟩ = some (.int .i64 xa) := (BX.out).cell 2 rfl; have x3 : (w1).cell? ⟨w.heap.size, 3, none⟩ = some (.int .i64 xt) := (BX.out).cell 3 rfl; have x4 : (w1).cell? ⟨w.heap.size, 4, none⟩ = some (.slice Ax dx.length cx) := (BX.out).cell 4 rfl; have y0 : (w1).cell? ⟨w.heap.size + 1, 0, none⟩ = some (.int .i64 yo) := (BY.out).cell 0 rfl; have y1 : (w1).cell? ⟨w.heap.size + 1, 1, none⟩ = some (.int .i64 yn) := (BY.out).cell 1 rfl; have y2 : (w1).cell? ⟨w.heap.size + 1, 2, none⟩ = some (.int .i64 ya) := (BY.out).cell 2 rfl; have y3 : (w1).cell? ⟨w.heap.size + 1, 3, none⟩ = some (.int .i64 yt) := (BY.out).cell 3 rfl; have y4 : (w1).cell? ⟨w.heap.size + 1, 4, none⟩ = some (.slice Ay dy.length cy) := (BY.out).cell 4 rfl; clear hf)
        | (have _q := P; go_at_call 11; refine (HFY.out GY.out _ ((Y.out).fr0 F.out)).mono ?_; rintro e w3 ⟨v, rfl, hown, hf⟩; obtain ⟨A3, c3, rfl, hr, -⟩ := own_text hown; replace P := Lib.hid ((P.out).fr0 hf); have Q := Lib.hid hr; replace F := Lib.hid ((F.out).trans hf); replace BX := Lib.hid ((BX.out).fr0 hf); replace BY := Lib.hid ((BY.out).fr0 hf); clear x0 x1 x2 x3 x4 y0 y1 y2 y3 y4; have x0 : (w3).cell? ⟨w.heap.size, 0, none⟩ = some (.int .i64 xo) := (BX.out).cell 0 rfl; have x1 : (w3).cell? ⟨w.heap.size, 1, none⟩ = some (.int .i64 xn) := (BX.out).cell 1 rfl; have x2 : (w3).cell? ⟨w.heap.size, 2, none⟩ = some (.int .i64 xa) := (BX.out).cell 2 rfl; have x3 : (w3).cell? ⟨w.heap.size, 3, none⟩ = some (.int .i64 xt) := (BX.out).cell 3 rfl; have x4 : (w3).cell? ⟨w.heap.size, 4, none⟩ = some (.slice Ax dx.length cx) := (BX.out).cell 4 rfl; have y0 : (w3).cell? ⟨w.heap.size + 1, 0, none⟩ = some (.int .i64 yo) := (BY.out).cell 0 rfl; have y1 : (w3).cell? ⟨w.heap.size + 1, 1, none⟩ = some (.int .i64 yn) := (BY.out).cell 1 rfl; have y2 : (w3).cell? ⟨w.heap.size + 1, 2, none⟩ = some (.int .i64 ya) := (BY.out).cell 2 rfl; have y3 : (w3).cell? ⟨w.heap.size + 1, 3, none⟩ = some (.int .i64 yt) := (BY.out).cell 3 rfl; have y4 : (w3).cell? ⟨w.heap.size + 1, 4, none⟩ = some (.slice Ay dy.length cy) := (BY.out).cell 4 rfl; clear hf; clear hown hr)
        | (go_at_call 11; refine (HFX.out GX.out _ ((X.out).fr0 F.out)).mono ?_; rintro e w2 ⟨v, rfl, hown, hf⟩; obtain ⟨A2, c2, rfl, hr, -⟩ := own_text hown; have P := Lib.hid hr; replace F := Lib.hid ((F.out).trans hf); replace BX := Lib.hid ((BX.out).fr0 hf); replace BY := Lib.hid ((BY.out).fr0 hf); clear x0 x1 x2 x3 x4 y0 y1 y2 y3 y4; have x0 : (w2).cell? ⟨w.heap.size, 0, none⟩ = some (.int .i64 xo) := (BX.out).cell 0 rfl; have x1 : (w2).cell? ⟨w.heap.size, 1, none⟩ = some (.int .i64 xn) := (BX.out).cell 1 rfl; have x2 : (w2).cell? ⟨w.heap.size, 2, none⟩ = some (.int .i64 xa) := (BX.out).cell 2 rfl; have x3 : (w2).cell? ⟨w.heap.size, 3, none⟩ = some (.int .i64 xt) := (BX.out).cell 3 rfl; have x4 : (w2).cell? ⟨w.heap.size, 4, none⟩ = some (.slice Ax dx.length cx) := (BX.out).cell 4 rfl; have y0 : (w2).cell? ⟨w.heap.size + 1, 0, none⟩ = some (.int .i64 yo) := (BY.out).cell 0 rfl; have y1 : (w2).cell? ⟨w.heap.size + 1, 1, none⟩ = some (.int .i64 yn) := (BY.out).cell 1 rfl; have y2 : (w2).cell? ⟨w.heap.size + 1, 2, none⟩ = some (.int .i64 ya) := (BY.out).cell 2 rfl; have y3 : (w2).cell? ⟨w.heap.size + 1, 3, none⟩ = some (.int .i64 yt) := (BY.out).cell 3 rfl; have y4 : (w2).cell? ⟨w.heap.size + 1, 4, none⟩ = some (.slice Ay dy.length cy) := (BY.out).cell 4 rfl; clear hf; clear hown hr))
      have G := Lib.hid (show Fr0 w3 w3.drew from (Fr0.refl w3).drew)
      clear x0 x1 x2 x3 x4 y0 y1 y2 y3 y4
      have HS := Lib.hid (fun (w' : World) (h : Fr0 w3 w') => same1_any (xo := xo) (xn := xn) (xa := xa) (xt := xt) (yo := yo) (yn := yn) (ya := ya) (yt := yt) (g := w'.heap.size) ((X.out).fr0 ((F.out).trans h)) ((Y.out).fr0 ((F.out).trans h)) rfl)
      rw [← HAL.out] at HS
      go_region_held_law (fun w' => (convert 22 9 (.slice A2 fx.length c2)).run Try.prog w' = .ok (.string (str fx)) w' ∧ (convert 22 9 (.slice A3 fy.length c3)).run Try.prog w' = .ok (.string (str fy)) w' ∧ w'.cell? ⟨w.heap.size, 0, none⟩ = some (.int .i64 xo) ∧ w'.cell? ⟨w.heap.size, 1, none⟩ = some (.int .i64 xn) ∧ w'.cell? ⟨w.heap.size, 2, none⟩ = some (.int .i64 xa) ∧ w'.cell? ⟨w.heap.size, 3, none⟩ = some (.int .i64 xt) ∧ w'.cell? ⟨w.heap.size, 4, none⟩ = some (.slice Ax dx.length cx) ∧ w'.cell? ⟨w.heap.size + 1, 0, none⟩ = some (.int .i64 yo) ∧ w'.cell? ⟨w.heap.size + 1, 1, none⟩ = some (.int .i64 yn) ∧ w'.cell? ⟨w.heap.size + 1, 2, none⟩ = some (.int .i64 ya) ∧ w'.cell? ⟨w.heap.size + 1, 3, none⟩ = some (.int .i64 yt) ∧ w'.cell? ⟨w.heap.size + 1, 4, none⟩ = some (.slice Ay dy.length cy))
        (first | exact ⟨conv_own ((P.out).fr0 G.out), conv_own ((Q.out).fr0 G.out), ((BX.out).fr0 G.out).cell 0 rfl, ((BX.out).fr0 G.out).cell 1 rfl, ((BX.out).fr0 G.out).cell 2 rfl, ((BX.out).fr0 G.out).cell 3 rfl, ((BX.out).fr0 G.out).cell 4 rfl, ((BY.out).fr0 G.out).cell 0 rfl, ((BY.out).fr0 G.out).cell 1 rfl, ((BY.out).fr0 G.out).cell 2 rfl, ((BY.out).fr0 G.out).cell 3 rfl, ((BY.out).fr0 G.out).cell 4 rfl⟩ | exact ⟨conv_own (((P.out).fr0 G.out).fr0 ((Fr0.refl _).alloc _)), conv_own (((Q.out).fr0 G.out).fr0 ((Fr0.refl _).alloc _)), (((BX.out).fr0 G.out).alloc _).cell 0 rfl, (((BX.out).fr0 G.out).alloc _).cell 1 rfl, (((BX.out).fr0 G.out).alloc _).cell 2 rfl, (((BX.out).fr0 G.out).alloc _).cell 3 rfl, (((BX.out).fr0 G.out).alloc _).cell 4 rfl, (((BY.out).fr0 G.out).alloc _).cell 0 rfl, (((BY.out).fr0 G.out).alloc _).cell 1 rfl, (((BY.out).fr0 G.out).alloc _).cell 2 rfl, (((BY.out).fr0 G.out).alloc _).cell 3 rfl, (((BY.out).fr0 G.out).alloc _).cell 4 rfl⟩) (first
        | (go_at_call 14; refine (HS.out _ G.out).mono ?_; rintro e w5 ⟨rfl, hf⟩; replace G := Lib.hid ((G.out).trans hf); clear hf))
      all_goals (go_wp2_with fail; go_ret; exact ⟨rfl, (F.out).trans G.out⟩)
    · have GY := Lib.hid hmy0
      have by' : (my != 0) = true := by simpa using hmy0
      clear hmy0
      go_enter Try.func6, Try.ntmps6
      go_wp2_with (first
        | (go_at_call 7; refine (KN.out).mono ?_; rintro e w1 ⟨rfl, hf⟩; have F := Lib.hid (Fr0.trans (((Fr0.refl w).alloc _).alloc _) hf); have BX := Lib.hid ((BX0.out).fr0 hf); have BY := Lib.hid ((BY0.out).fr0 hf); have x0 : (w1).cell? ⟨w.heap.size, 0, none⟩ = some (.int .i64 xo) := (BX.out).cell 0 rfl; have x1 : (w1).cell? ⟨w.heap.size, 1, none⟩ = some (.int .i64 xn) := (BX.out).cell 1 rfl; have x2 : (w1).cell? ⟨w.heap.size, 2, none⟩ = some (.int .i64 xa) := (BX.out).cell 2 rfl; have x3 : (w1).cell? ⟨w.heap.size, 3, none⟩ = some (.int .i64 xt) := (BX.out).cell 3 rfl; have x4 : (w1).cell? ⟨w.heap.size, 4, none⟩ = some (.slice Ax dx.length cx) := (BX.out).cell 4 rfl; have y0 : (w1).cell? ⟨w.heap.size + 1, 0, none⟩ = some (.int .i64 yo) := (BY.out).cell 0 rfl; have y1 : (w1).cell? ⟨w.heap.size + 1, 1, none⟩ = some (.int .i64 yn) := (BY.out).cell 1 rfl; have y2 : (w1).cell? ⟨w.heap.size + 1, 2, none⟩ = some (.int .i64 ya) := (BY.out).cell 2 rfl; have y3 : (w1).cell? ⟨w.heap.size + 1, 3, none⟩ = some (.int .i64 yt) := (BY.out).cell 3 rfl; have y4 : (w1).cell? ⟨w.heap.size + 1, 4, none⟩ = some (.slice Ay dy.length cy) := (BY.out).cell 4 rfl; clear hf)
        | (have _q := P; go_at_call 11; refine (HBY.out GY.out _).mono ?_; rintro e w3 ⟨rfl, hf⟩; replace F := Lib.hid ((F.out).trans hf); replace BX := Lib.hid ((BX.out).fr0 hf); replace BY := Lib.hid ((BY.out).fr0 hf); clear x0 x1 x2 x3 x4 y0 y1 y2 y3 y4; have x0 : (w3).cell? ⟨w.heap.size, 0, none⟩ = some (.int .i64 xo) := (BX.out).cell 0 rfl; have x1 : (w3).cell? ⟨w.heap.size, 1, none⟩ = some (.int .i64 xn) := (BX.out).cell 1 rfl; have x2 : (w3).cell? ⟨w.heap.size, 2, none⟩ = some (.int .i64 xa) := (BX.out).cell 2 rfl; have x3 : (w3).cell? ⟨w.heap.size, 3, none⟩ = some (.int .i64 xt) := (BX.out).cell 3 rfl; have x4 : (w3).cell? ⟨w.heap.size, 4, none⟩ = some (.slice Ax dx.length cx) := (BX.out).cell 4 rfl; have y0 : (w3).cell? ⟨w.heap.size + 1, 0, none⟩ = some (.int .i64 yo) := (BY.out).cell 0 rfl; have y1 : (w3).cell? ⟨w.heap.size + 1, 1, none⟩ = some (.int .i64 yn) := (BY.out).cell 1 rfl; have y2 : (w3).cell? ⟨w.heap.size + 1, 2, none⟩ = some (.int .i64 ya) := (BY.out).cell 2 rfl; have y3 : (w3).cell? ⟨w.heap.size + 1, 3, none⟩ = some (.int .i64 yt) := (BY.out).cell 3 rfl; have y4 : (w3).cell? ⟨w.heap.size + 1, 4, none⟩ = some (.slice Ay dy.length cy) := (BY.out).cell 4 rfl; clear hf; have T3 := Lib.hid True.intro)
        | (go_at_call 11; refine (HFX.out GX.out _ ((X.out).fr0 F.out)).mono ?_; rintro e w2 ⟨v, rfl, hown, hf⟩; obtain ⟨A2, c2, rfl, hr, -⟩ := own_text hown; have P := Lib.hid hr; replace F := Lib.hid ((F.out).trans hf); replace BX := Lib.hid ((BX.out).fr0 hf); replace BY := Lib.hid ((BY.out).fr0 hf); clear x0 x1 x2 x3 x4 y0 y1 y2 y3 y4; have x0 : (w2).cell? ⟨w.heap.size, 0, none⟩ = some (.int .i64 xo) := (BX.out).cell 0 rfl; have x1 : (w2).cell? ⟨w.heap.size, 1, none⟩ = some (.int .i64 xn) := (BX.out).cell 1 rfl; have x2 : (w2).cell? ⟨w.heap.size, 2, none⟩ = some (.int .i64 xa) := (BX.out).cell 2 rfl; have x3 : (w2).cell? ⟨w.heap.size, 3, none⟩ = some (.int .i64 xt) := (BX.out).cell 3 rfl; have x4 : (w2).cell? ⟨w.heap.size, 4, none⟩ = some (.slice Ax dx.length cx) := (BX.out).cell 4 rfl; have y0 : (w2).cell? ⟨w.heap.size + 1, 0, none⟩ = some (.int .i64 yo) := (BY.out).cell 0 rfl; have y1 : (w2).cell? ⟨w.heap.size + 1, 1, none⟩ = some (.int .i64 yn) := (BY.out).cell 1 rfl; have y2 : (w2).cell? ⟨w.heap.size + 1, 2, none⟩ = some (.int .i64 ya) := (BY.out).cell 2 rfl; have y3 : (w2).cell? ⟨w.heap.size + 1, 3, none⟩ = some (.int .i64 yt) := (BY.out).cell 3 rfl; have y4 : (w2).cell? ⟨w.heap.size + 1, 4, none⟩ = some (.slice Ay dy.length cy) := (BY.out).cell 4 rfl; clear hf; clear hown hr)
        | (have _q := T4; go_at_call 12; refine (HMY.out _).mono ?_; rintro e w5 ⟨rfl, hf⟩; replace F := Lib.hid ((F.out).trans hf); clear hf)
        | (go_at_call 12; refine (HMX.out _).mono ?_; rintro e w4 ⟨rfl, hf⟩; replace F := Lib.hid ((F.out).trans hf); replace BX := Lib.hid ((BX.out).fr0 hf); replace BY := Lib.hid ((BY.out).fr0 hf); clear x0 x1 x2 x3 x4 y0 y1 y2 y3 y4; have x0 : (w4).cell? ⟨w.heap.size, 0, none⟩ = some (.int .i64 xo) := (BX.out).cell 0 rfl; have x1 : (w4).cell? ⟨w.heap.size, 1, none⟩ = some (.int .i64 xn) := (BX.out).cell 1 rfl; have x2 : (w4).cell? ⟨w.heap.size, 2, none⟩ = some (.int .i64 xa) := (BX.out).cell 2 rfl; have x3 : (w4).cell? ⟨w.heap.size, 3, none⟩ = some (.int .i64 xt) := (BX.out).cell 3 rfl; have x4 : (w4).cell? ⟨w.heap.size, 4, none⟩ = some (.slice Ax dx.length cx) := (BX.out).cell 4 rfl; have y0 : (w4).cell? ⟨w.heap.size + 1, 0, none⟩ = some (.int .i64 yo) := (BY.out).cell 0 rfl; have y1 : (w4).cell? ⟨w.heap.size + 1, 1, none⟩ = some (.int .i64 yn) := (BY.out).cell 1 rfl; have y2 : (w4).cell? ⟨w.heap.size + 1, 2, none⟩ = some (.int .i64 ya) := (BY.out).cell 2 rfl; have y3 : (w4).cell? ⟨w.heap.size + 1, 3, none⟩ = some (.int .i64 yt) := (BY.out).cell 3 rfl; have y4 : (w4).cell? ⟨w.heap.size + 1, 4, none⟩ = some (.slice Ay dy.length cy) := (BY.out).cell 4 rfl; clear hf; have T4 := Lib.hid True.intro))
      all_goals (go_ret; exact ⟨rfl, F.out⟩)
  · have GX := Lib.hid hmx0
    have bx : (mx != 0) = true := by simpa using hmx0
    by_cases hmy0 : my = 0
    · subst hmy0
      have GY := Lib.hid (rfl : (0 : Int) = 0)
      clear hmx0
      go_enter Try.func6, Try.ntmps6
      go_wp2_with (first
        | (go_at_call 7; refine (KN.out).mono ?_; rintro e w1 ⟨rfl, hf⟩; have F := Lib.hid (Fr0.trans (((Fr0.refl w).alloc _).alloc _) hf); have BX := Lib.hid ((BX0.out).fr0 hf); have BY := Lib.hid ((BY0.out).fr0 hf); have x0 : (w1).cell? ⟨w.heap.size, 0, none⟩ = some (.int .i64 xo) := (BX.out).cell 0 rfl; have x1 : (w1).cell? ⟨w.heap.size, 1, none⟩ = some (.int .i64 xn) := (BX.out).cell 1 rfl; have x2 : (w1).cell? ⟨w.heap.size, 2, none⟩ = some (.int .i64 xa) := (BX.out).cell 2 rfl; have x3 : (w1).cell? ⟨w.heap.size, 3, none⟩ = some (.int .i64 xt) := (BX.out).cell 3 rfl; have x4 : (w1).cell? ⟨w.heap.size, 4, none⟩ = some (.slice Ax dx.length cx) := (BX.out).cell 4 rfl; have y0 : (w1).cell? ⟨w.heap.size + 1, 0, none⟩ = some (.int .i64 yo) := (BY.out).cell 0 rfl; have y1 : (w1).cell? ⟨w.heap.size + 1, 1, none⟩ = some (.int .i64 yn) := (BY.out).cell 1 rfl; have y2 : (w1).cell? ⟨w.heap.size + 1, 2, none⟩ = some (.int .i64 ya) := (BY.out).cell 2 rfl; have y3 : (w1).cell? ⟨w.heap.size + 1, 3, none⟩ = some (.int .i64 yt) := (BY.out).cell 3 rfl; have y4 : (w1).cell? ⟨w.heap.size + 1, 4, none⟩ = some (.slice Ay dy.length cy) := (BY.out).cell 4 rfl; clear hf)
        | (have _q := T2; go_at_call 11; refine (HFY.out GY.out _ ((Y.out).fr0 F.out)).mono ?_; rintro e w3 ⟨v, rfl, hown, hf⟩; obtain ⟨A3, c3, rfl, hr, -⟩ := own_text hown; replace F := Lib.hid ((F.out).trans hf); replace BX := Lib.hid ((BX.out).fr0 hf); replace BY := Lib.hid ((BY.out).fr0 hf); clear x0 x1 x2 x3 x4 y0 y1 y2 y3 y4; have x0 : (w3).cell? ⟨w.heap.size, 0, none⟩ = some (.int .i64 xo) := (BX.out).cell 0 rfl; have x1 : (w3).cell? ⟨w.heap.size, 1, none⟩ = some (.int .i64 xn) := (BX.out).cell 1 rfl; have x2 : (w3).cell? ⟨w.heap.size, 2, none⟩ = some (.int .i64 xa) := (BX.out).cell 2 rfl; have x3 : (w3).cell? ⟨w.heap.size, 3, none⟩ = some (.int .i64 xt) := (BX.out).cell 3 rfl; have x4 : (w3).cell? ⟨w.heap.size, 4, none⟩ = some (.slice Ax dx.length cx) := (BX.out).cell 4 rfl; have y0 : (w3).cell? ⟨w.heap.size + 1, 0, none⟩ = some (.int .i64 yo) := (BY.out).cell 0 rfl; have y1 : (w3).cell? ⟨w.heap.size + 1, 1, none⟩ = some (.int .i64 yn) := (BY.out).cell 1 rfl; have y2 : (w3).cell? ⟨w.heap.size + 1, 2, none⟩ = some (.int .i64 ya) := (BY.out).cell 2 rfl; have y3 : (w3).cell? ⟨w.heap.size + 1, 3, none⟩ = some (.int .i64 yt) := (BY.out).cell 3 rfl; have y4 : (w3).cell? ⟨w.heap.size + 1, 4, none⟩ = some (.slice Ay dy.length cy) := (BY.out).cell 4 rfl; clear hf; clear hown hr)
        | (go_at_call 11; refine (HBX.out GX.out _).mono ?_; rintro e w2 ⟨rfl, hf⟩; replace F := Lib.hid ((F.out).trans hf); replace BX := Lib.hid ((BX.out).fr0 hf); replace BY := Lib.hid ((BY.out).fr0 hf); clear x0 x1 x2 x3 x4 y0 y1 y2 y3 y4; have x0 : (w2).cell? ⟨w.heap.size, 0, none⟩ = some (.int .i64 xo) := (BX.out).cell 0 rfl; have x1 : (w2).cell? ⟨w.heap.size, 1, none⟩ = some (.int .i64 xn) := (BX.out).cell 1 rfl; have x2 : (w2).cell? ⟨w.heap.size, 2, none⟩ = some (.int .i64 xa) := (BX.out).cell 2 rfl; have x3 : (w2).cell? ⟨w.heap.size, 3, none⟩ = some (.int .i64 xt) := (BX.out).cell 3 rfl; have x4 : (w2).cell? ⟨w.heap.size, 4, none⟩ = some (.slice Ax dx.length cx) := (BX.out).cell 4 rfl; have y0 : (w2).cell? ⟨w.heap.size + 1, 0, none⟩ = some (.int .i64 yo) := (BY.out).cell 0 rfl; have y1 : (w2).cell? ⟨w.heap.size + 1, 1, none⟩ = some (.int .i64 yn) := (BY.out).cell 1 rfl; have y2 : (w2).cell? ⟨w.heap.size + 1, 2, none⟩ = some (.int .i64 ya) := (BY.out).cell 2 rfl; have y3 : (w2).cell? ⟨w.heap.size + 1, 3, none⟩ = some (.int .i64 yt) := (BY.out).cell 3 rfl; have y4 : (w2).cell? ⟨w.heap.size + 1, 4, none⟩ = some (.slice Ay dy.length cy) := (BY.out).cell 4 rfl; clear hf; have T2 := Lib.hid True.intro)
        | (have _q := T4; go_at_call 12; refine (HMY.out _).mono ?_; rintro e w5 ⟨rfl, hf⟩; replace F := Lib.hid ((F.out).trans hf); clear hf)
        | (go_at_call 12; refine (HMX.out _).mono ?_; rintro e w4 ⟨rfl, hf⟩; replace F := Lib.hid ((F.out).trans hf); replace BX := Lib.hid ((BX.out).fr0 hf); replace BY := Lib.hid ((BY.out).fr0 hf); clear x0 x1 x2 x3 x4 y0 y1 y2 y3 y4; have x0 : (w4).cell? ⟨w.heap.size, 0, none⟩ = some (.int .i64 xo) := (BX.out).cell 0 rfl; have x1 : (w4).cell? ⟨w.heap.size, 1, none⟩ = some (.int .i64 xn) := (BX.out).cell 1 rfl; have x2 : (w4).cell? ⟨w.heap.size, 2, none⟩ = some (.int .i64 xa) := (BX.out).cell 2 rfl; have x3 : (w4).cell? ⟨w.heap.size, 3, none⟩ = some (.int .i64 xt) := (BX.out).cell 3 rfl; have x4 : (w4).cell? ⟨w.heap.size, 4, none⟩ = some (.slice Ax dx.length cx) := (BX.out).cell 4 rfl; have y0 : (w4).cell? ⟨w.heap.size + 1, 0, none⟩ = some (.int .i64 yo) := (BY.out).cell 0 rfl; have y1 : (w4).cell? ⟨w.heap.size + 1, 1, none⟩ = some (.int .i64 yn) := (BY.out).cell 1 rfl; have y2 : (w4).cell? ⟨w.heap.size + 1, 2, none⟩ = some (.int .i64 ya) := (BY.out).cell 2 rfl; have y3 : (w4).cell? ⟨w.heap.size + 1, 3, none⟩ = some (.int .i64 yt) := (BY.out).cell 3 rfl; have y4 : (w4).cell? ⟨w.heap.size + 1, 4, none⟩ = some (.slice Ay dy.length cy) := (BY.out).cell 4 rfl; clear hf; have T4 := Lib.hid True.intro))
      all_goals (go_ret; exact ⟨rfl, F.out⟩)
    · have GY := Lib.hid hmy0
      clear hmx0 hmy0
      go_enter Try.func6, Try.ntmps6
      go_wp2_with (first
        | (go_at_call 7; refine (KN.out).mono ?_; rintro e w1 ⟨rfl, hf⟩; have F := Lib.hid (Fr0.trans (((Fr0.refl w).alloc _).alloc _) hf); have BX := Lib.hid ((BX0.out).fr0 hf); have BY := Lib.hid ((BY0.out).fr0 hf); have x0 : (w1).cell? ⟨w.heap.size, 0, none⟩ = some (.int .i64 xo) := (BX.out).cell 0 rfl; have x1 : (w1).cell? ⟨w.heap.size, 1, none⟩ = some (.int .i64 xn) := (BX.out).cell 1 rfl; have x2 : (w1).cell? ⟨w.heap.size, 2, none⟩ = some (.int .i64 xa) := (BX.out).cell 2 rfl; have x3 : (w1).cell? ⟨w.heap.size, 3, none⟩ = some (.int .i64 xt) := (BX.out).cell 3 rfl; have x4 : (w1).cell? ⟨w.heap.size, 4, none⟩ = some (.slice Ax dx.length cx) := (BX.out).cell 4 rfl; have y0 : (w1).cell? ⟨w.heap.size + 1, 0, none⟩ = some (.int .i64 yo) := (BY.out).cell 0 rfl; have y1 : (w1).cell? ⟨w.heap.size + 1, 1, none⟩ = some (.int .i64 yn) := (BY.out).cell 1 rfl; have y2 : (w1).cell? ⟨w.heap.size + 1, 2, none⟩ = some (.int .i64 ya) := (BY.out).cell 2 rfl; have y3 : (w1).cell? ⟨w.heap.size + 1, 3, none⟩ = some (.int .i64 yt) := (BY.out).cell 3 rfl; have y4 : (w1).cell? ⟨w.heap.size + 1, 4, none⟩ = some (.slice Ay dy.length cy) := (BY.out).cell 4 rfl; clear hf)
        | (have _q := T2; go_at_call 11; refine (HBY.out GY.out _).mono ?_; rintro e w3 ⟨rfl, hf⟩; replace F := Lib.hid ((F.out).trans hf); replace BX := Lib.hid ((BX.out).fr0 hf); replace BY := Lib.hid ((BY.out).fr0 hf); clear x0 x1 x2 x3 x4 y0 y1 y2 y3 y4; have x0 : (w3).cell? ⟨w.heap.size, 0, none⟩ = some (.int .i64 xo) := (BX.out).cell 0 rfl; have x1 : (w3).cell? ⟨w.heap.size, 1, none⟩ = some (.int .i64 xn) := (BX.out).cell 1 rfl; have x2 : (w3).cell? ⟨w.heap.size, 2, none⟩ = some (.int .i64 xa) := (BX.out).cell 2 rfl; have x3 : (w3).cell? ⟨w.heap.size, 3, none⟩ = some (.int .i64 xt) := (BX.out).cell 3 rfl; have x4 : (w3).cell? ⟨w.heap.size, 4, none⟩ = some (.slice Ax dx.length cx) := (BX.out).cell 4 rfl; have y0 : (w3).cell? ⟨w.heap.size + 1, 0, none⟩ = some (.int .i64 yo) := (BY.out).cell 0 rfl; have y1 : (w3).cell? ⟨w.heap.size + 1, 1, none⟩ = some (.int .i64 yn) := (BY.out).cell 1 rfl; have y2 : (w3).cell? ⟨w.heap.size + 1, 2, none⟩ = some (.int .i64 ya) := (BY.out).cell 2 rfl; have y3 : (w3).cell? ⟨w.heap.size + 1, 3, none⟩ = some (.int .i64 yt) := (BY.out).cell 3 rfl; have y4 : (w3).cell? ⟨w.heap.size + 1, 4, none⟩ = some (.slice Ay dy.length cy) := (BY.out).cell 4 rfl; clear hf)
        | (go_at_call 11; refine (HBX.out GX.out _).mono ?_; rintro e w2 ⟨rfl, hf⟩; replace F := Lib.hid ((F.out).trans hf); replace BX := Lib.hid ((BX.out).fr0 hf); replace BY := Lib.hid ((BY.out).fr0 hf); clear x0 x1 x2 x3 x4 y0 y1 y2 y3 y4; have x0 : (w2).cell? ⟨w.heap.size, 0, none⟩ = some (.int .i64 xo) := (BX.out).cell 0 rfl; have x1 : (w2).cell? ⟨w.heap.size, 1, none⟩ = some (.int .i64 xn) := (BX.out).cell 1 rfl; have x2 : (w2).cell? ⟨w.heap.size, 2, none⟩ = some (.int .i64 xa) := (BX.out).cell 2 rfl; have x3 : (w2).cell? ⟨w.heap.size, 3, none⟩ = some (.int .i64 xt) := (BX.out).cell 3 rfl; have x4 : (w2).cell? ⟨w.heap.size, 4, none⟩ = some (.slice Ax dx.length cx) := (BX.out).cell 4 rfl; have y0 : (w2).cell? ⟨w.heap.size + 1, 0, none⟩ = some (.int .i64 yo) := (BY.out).cell 0 rfl; have y1 : (w2).cell? ⟨w.heap.size + 1, 1, none⟩ = some (.int .i64 yn) := (BY.out).cell 1 rfl; have y2 : (w2).cell? ⟨w.heap.size + 1, 2, none⟩ = some (.int .i64 ya) := (BY.out).cell 2 rfl; have y3 : (w2).cell? ⟨w.heap.size + 1, 3, none⟩ = some (.int .i64 yt) := (BY.out).cell 3 rfl; have y4 : (w2).cell? ⟨w.heap.size + 1, 4, none⟩ = some (.slice Ay dy.length cy) := (BY.out).cell 4 rfl; clear hf; have T2 := Lib.hid True.intro)
        | (have _q := T4; go_at_call 12; refine (HMY.out _).mono ?_; rintro e w5 ⟨rfl, hf⟩; replace F := Lib.hid ((F.out).trans hf); clear hf)
        | (go_at_call 12; refine (HMX.out _).mono ?_; rintro e w4 ⟨rfl, hf⟩; replace F := Lib.hid ((F.out).trans hf); replace BX := Lib.hid ((BX.out).fr0 hf); replace BY := Lib.hid ((BY.out).fr0 hf); clear x0 x1 x2 x3 x4 y0 y1 y2 y3 y4; have x0 : (w4).cell? ⟨w.heap.size, 0, none⟩ = some (.int .i64 xo) := (BX.out).cell 0 rfl; have x1 : (w4).cell? ⟨w.heap.size, 1, none⟩ = some (.int .i64 xn) := (BX.out).cell 1 rfl; have x2 : (w4).cell? ⟨w.heap.size, 2, none⟩ = some (.int .i64 xa) := (BX.out).cell 2 rfl; have x3 : (w4).cell? ⟨w.heap.size, 3, none⟩ = some (.int .i64 xt) := (BX.out).cell 3 rfl; have x4 : (w4).cell? ⟨w.heap.size, 4, none⟩ = some (.slice Ax dx.length cx) := (BX.out).cell 4 rfl; have y0 : (w4).cell? ⟨w.heap.size + 1, 0, none⟩ = some (.int .i64 yo) := (BY.out).cell 0 rfl; have y1 : (w4).cell? ⟨w.heap.size + 1, 1, none⟩ = some (.int .i64 yn) := (BY.out).cell 1 rfl; have y2 : (w4).cell? ⟨w.heap.size + 1, 2, none⟩ = some (.int .i64 ya) := (BY.out).cell 2 rfl; have y3 : (w4).cell? ⟨w.heap.size + 1, 3, none⟩ = some (.int .i64 yt) := (BY.out).cell 3 rfl; have y4 : (w4).cell? ⟨w.heap.size + 1, 4, none⟩ = some (.slice Ay dy.length cy) := (BY.out).cell 4 rfl; clear hf; have T4 := Lib.hid True.intro))
      all_goals (go_ret; exact ⟨rfl, F.out⟩)

namespace InstrApart
open Go.ChangeShapes Go.WideShapes Go.ChangeAt
open Go.ChangeMaps (open_string shut_string)

theorem own : ownKnob Try.prog.godebug = none := by kernel_rfl
theorem laidOut : laidOutB Try.prog = true := by kernel_rfl

set_option maxRecDepth 100000 in
theorem lifted (os : Os) (started : os.Started) (H : Type) (enc : TypeId × Value → H) :
    ReturnsInHanded {} Try.checked os 6 .any (Rows.instrApartSpec.pre6 enc Try.prog Try.f6 Rows.instrApartRow.domain false) (Rows.instrApartSpec.post enc Try.prog Try.f6 false true false false) := by
  refine returnsInHanded_of_change (C := Try.checked) own started (by kernel_rfl) Try.func6
    (ChangeSpec.witness6 (enc := enc) (C := Try.checked) false ⟨#[], #[.agg #[.int .i64 0, .int .i64 0, .int .i64 0, .int .i64 0, .slice none 0 0], .agg #[.int .i64 0, .int .i64 0, .int .i64 0, .int .i64 0, .slice none 0 0]], []⟩ 8 (by kernel_rfl) (by kernel_rfl) (by kernel_rfl) (by kernel_rfl)) ?_
  intro W base args ds gs before hval0 hW hcnd _
  have hval : ∀ (j : Nat) t v, Try.f6.params[j]? = some t → args[j]? = some v → Value.okWide Try.prog W .any base t v := hval0
  have hW' := hW
  obtain ⟨p, q, hA0, hV, rfl, hfz, hnd⟩ := hW
  have hA : DataW.TrodAll enc Try.prog W 0 (fun _ => true) true Try.f6.params.toList args.toList ds p := hA0
  rw [Try.params6] at hA hval
  obtain ⟨v0, vs0, d0', ds0, p0, q0, hargs, rfl, rfl, h0, r0⟩ := trodAll_cons hA
  obtain ⟨v1, vs1, d1', ds1, p1, q1, rfl, rfl, rfl, h1, r1⟩ := trodAll_cons r0
  obtain ⟨rfl, rfl, rfl⟩ := trodAll_nil r1
  obtain rfl : args = #[v0, v1] := by cases args; simp_all
  obtain ⟨rfl, rfl⟩ := trodVars_none hV
  have k0 := h0
  have lt0 : ∀ x ∈ p0, x.block < W.heap.size := by obtain ⟨m, hm⟩ := k0; exact DataW.trod_lt m _ _ _ hm
  obtain ⟨y0, rfl, hy0⟩ := arg_instr (tb := 22) (eb := 5) Try.underlying25 (by kernel_rfl) (by kernel_rfl)
    (fun j hj => by rcases (by omega : j = 0 ∨ j = 1 ∨ j = 2 ∨ j = 3) with rfl | rfl | rfl | rfl <;> exact ⟨_, rfl, Try.underlying3⟩) ⟨_, rfl, rfl⟩ Try.underlying22 Try.underlying5 (by kernel_rfl) (hval 0 25 v0 rfl rfl) h0
  have k1 := h1
  have lt1 : ∀ x ∈ p1, x.block < W.heap.size := by obtain ⟨m, hm⟩ := k1; exact DataW.trod_lt m _ _ _ hm
  obtain ⟨y1, rfl, hy1⟩ := arg_instr (tb := 22) (eb := 5) Try.underlying25 (by kernel_rfl) (by kernel_rfl)
    (fun j hj => by rcases (by omega : j = 0 ∨ j = 1 ∨ j = 2 ∨ j = 3) with rfl | rfl | rfl | rfl <;> exact ⟨_, rfl, Try.underlying3⟩) ⟨_, rfl, rfl⟩ Try.underlying22 Try.underlying5 (by kernel_rfl) (hval 1 25 v1 rfl rfl) h1
  clear hA0 hval0
  refine (instrApart_any hy0 hy1).mono fun e W' ⟨he, hfr⟩ => ?_
  have bel : Below W.heap.size W W' := Fr0.below hfr
  subst he
  exact ⟨_, rfl, _, _, _, [], _, [], hW', trodAll_mk1 (shut_bool Try.underlying4 _), (trodAll_cons_mk (Below.trod laidOut (by kernel_rfl) (of_decide_eq_true (by kernel_rfl)) k0 bel lt0) (trodAll_cons_mk (Below.trod laidOut (by kernel_rfl) (of_decide_eq_true (by kernel_rfl)) k1 bel lt1) trodAll_mk0)), rfl, bel.frame _, fun h => by cases h⟩

theorem over : Rows.instrApartRow.holds Try.pinned (OpenSpec.ofChange Rows.instrApartSpec) :=
  OpenClaim.holds_of_wide 6 Try.f6 rfl rfl rfl rfl rfl rfl rfl ⟨rfl, rfl, rfl, rfl, rfl⟩ rfl rfl rfl rfl rfl (by kernel_rfl) Try.func6 (by kernel_rfl)
    (of_decide_eq_true (by kernel_rfl)) (by unfold Func.isWrapper; first | (rw [if_pos (by decide +kernel)]; kernel_rfl) | (rw [if_neg (by decide +kernel)]; exact ⟨rfl, rfl⟩))
    (fun os started H enc _ => lifted os started H enc)

theorem proved : Rows.InstrApartSaid := over
#print axioms proved
end InstrApart
end Go.Proofs.Ytkgjmfmnkcfabaa
