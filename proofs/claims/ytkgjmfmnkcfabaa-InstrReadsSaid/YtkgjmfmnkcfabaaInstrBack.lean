/- InstrBack: what was formed is read again; what is read is formed as the bytes that were read; no form is more than 40 bytes longer than its Diff: the law returns true for every instruction and bytes. No condition. -/
import Derived.Test.YtkgjmfmnkcfabaaIKnown
import Derived.Test.YtkgjmfmnkcfabaaWLits
namespace Go.Proofs.Ytkgjmfmnkcfabaa
open Go.RowKit

theorem one_ins {w : World} {o n a t : Int} {A : Option Addr} {c : Nat} {d : List UInt8} (h : RdB w (.slice A d.length c) d) : InsArg (w.alloc (.cells #[.int .i64 o, .int .i64 n, .int .i64 a, .int .i64 t, .slice A d.length c] 25)) (.slice (some ⟨w.heap.size, 0, none⟩) 1 1) [⟨o, n, a, t, .slice A d.length c, d⟩] := by
  refine ⟨⟨rfl, ⟨_, _, rfl, Nat.le_refl _, by unfold maxLen; simp, fun h => by cases h⟩, fun _ => ⟨w.heap.size, 0, 1, _, _, _, rfl, heap_alloc_new w _, fun j u hu => by simpa [insCells] using hu⟩⟩, fun x hx => ?_⟩
  simp only [List.mem_cons, List.not_mem_nil, or_false] at hx
  subst hx
  exact h.fr0 ((Fr0.refl w).alloc _)
/-- Same of two instructions, the second one built in a row of its own. -/
theorem same1_any {xo xn xa xt yo yn ya yt : Int} {Ax Ay : Option Addr} {cx cy g : Nat} {dx dy : List UInt8} {w : World} (hx : RdB w (.slice Ax dx.length cx) dx) (hy : RdB w (.slice Ay dy.length cy) dy) (hg : g = w.heap.size) :
    Calls Try.prog 14 #[.agg #[.int .i64 xo, .int .i64 xn, .int .i64 xa, .int .i64 xt, .slice Ax dx.length cx], .slice (some ⟨g, 0, none⟩) 1 1] (w.alloc (.cells #[.int .i64 yo, .int .i64 yn, .int .i64 ya, .int .i64 yt, .slice Ay dy.length cy] 25)) fun e w' => e = .returned (.bool (alike xo xn xa xt dx yo yn ya yt dy)) ∧ Fr0 w w' := by
  subst hg
  refine (same_any (x := ⟨xo, xn, xa, xt, .slice Ax dx.length cx, dx⟩) (hx.fr0 ((Fr0.refl w).alloc _)) (one_ins hy)).mono ?_
  rintro e w' ⟨rfl, hf⟩
  exact ⟨by simp [alikeI], Fr0.trans ((Fr0.refl w).alloc _) hf⟩
theorem alike_self (o n a t : Int) (d : List UInt8) : alike o n a t d o n a t d = true := by simp [alike]
/-- Read of what was formed. -/
theorem read_form {old new ack trash : Int} {d : List UInt8} {v : Value} {w : World} (h : may old new ack trash d.length = 0) (hd : d.length ≤ 900000) (hb : RdB w v (iForm old new ack trash d)) :
    Calls Try.prog 8 #[v] w fun e w' => ∃ A c, e = .returned (.tuple #[.agg #[.int .i64 old, .int .i64 new, .int .i64 ack, .int .i64 trash, .slice A d.length c], .int .i64 0]) ∧ RdB w' (.slice A d.length c) d ∧ Fr0 w w' := by
  obtain ⟨hg, e1, e2, e3, e4, e5⟩ := iGood_form h
  refine (iread_good hb (by have := iForm_len h; omega) hg).mono ?_
  rintro e w' ⟨A, c, he, hr, hf⟩
  rw [e2, e4, e1, e3, e5] at he
  rw [e5] at hr
  exact ⟨A, c, he, hr, hf⟩

/-- Read of bytes that are an instruction. -/
theorem read_back {b : List UInt8} (hg : iGood b) (hn : b.length ≤ 1000000) : ∃ (o n a t : Int) (rs : List UInt8), may o n a t rs.length = 0 ∧ iForm o n a t rs = b ∧ rs.length ≤ b.length ∧ ∀ (v : Value) (w : World), RdB w v b →
    Calls Try.prog 8 #[v] w fun e w' => ∃ A c, e = .returned (.tuple #[.agg #[.int .i64 o, .int .i64 n, .int .i64 a, .int .i64 t, .slice A rs.length c], .int .i64 0]) ∧ RdB w' (.slice A rs.length c) rs ∧ Fr0 w w' := by
  have hf := iForm_read hg
  refine ⟨_, _, _, _, _, hg.2.2.2, hf, ?_, fun v w hr => iread_good hr hn hg⟩
  have := congrArg List.length hf
  simp only [iForm, List.length_append] at this
  omega
theorem same0_any {g : Nat} {w : World} (hg : g = w.heap.size) :
    Calls Try.prog 14 #[.agg #[.int .i64 0, .int .i64 0, .int .i64 0, .int .i64 0, .slice none 0 0], .slice (some ⟨g, 0, none⟩) 1 1] (w.alloc (.cells #[.int .i64 0, .int .i64 0, .int .i64 0, .int .i64 0, .slice none 0 0] 25)) fun e w' => e = .returned (.bool true) ∧ Fr0 w w' := by
  refine (same1_any (dx := []) (dy := []) (RdB.nil w) (RdB.nil w) hg).mono ?_
  rintro e w' ⟨rfl, hf⟩
  exact ⟨by rw [alike_self], hf⟩

set_option maxHeartbeats 2000000 in
set_option maxRecDepth 100000 in
theorem instrBack_any {xo xn xa xt : Int} {xv vb : Value} {dx b : List UInt8} {w : World} (hx : RdB w xv dx) (hb : RdB w vb b) :
    Calls Try.prog 5 #[.agg #[.int .i64 xo, .int .i64 xn, .int .i64 xa, .int .i64 xt, xv], vb] w fun e w' => e = .returned (.bool true) ∧ Fr0 w w' := by
  obtain ⟨Ax, cx, rfl, hnx, -, -⟩ := hx.form
  obtain ⟨Ab, cb, rfl, hnb, -, -⟩ := hb.form
  have x63 := hx.le63
  have b63 := hb.le63
  have KN := Lib.hid (known22_any (w.alloc (.cells #[.int .i64 xo, .int .i64 xn, .int .i64 xa, .int .i64 xt, .slice Ax dx.length cx] 25)))
  have BX0 := Lib.hid (Blk.new w #[.int .i64 xo, .int .i64 xn, .int .i64 xa, .int .i64 xt, .slice Ax dx.length cx] 25)
  by_cases hx2 : 3000 < dx.length
  · have q0 : decide (3000 < (dx.length : Int)) = true := by simp; omega
    have q1 : decide (3000 < dx.length) = true := by simpa using hx2
    clear hx hb
    go_enter Try.func5, Try.ntmps5
    go_wp2_with (go_at_call 7; refine (KN.out).mono ?_; rintro e w1 ⟨rfl, hf⟩; have F := Lib.hid (Fr0.trans ((Fr0.refl w).alloc _) hf); have BX := Lib.hid ((BX0.out).fr0 hf); have x0 : (w1).cell? ⟨w.heap.size, 0, none⟩ = some (.int .i64 xo) := (BX.out).cell 0 rfl; have x1 : (w1).cell? ⟨w.heap.size, 1, none⟩ = some (.int .i64 xn) := (BX.out).cell 1 rfl; have x2 : (w1).cell? ⟨w.heap.size, 2, none⟩ = some (.int .i64 xa) := (BX.out).cell 2 rfl; have x3 : (w1).cell? ⟨w.heap.size, 3, none⟩ = some (.int .i64 xt) := (BX.out).cell 3 rfl; have x4 : (w1).cell? ⟨w.heap.size, 4, none⟩ = some (.slice Ax dx.length cx) := (BX.out).cell 4 rfl; clear hf)
    go_ret
    exact ⟨rfl, F.out⟩
  by_cases hb2 : 3000 < b.length
  · have q0 : decide (3000 < (dx.length : Int)) = false := by simp; omega
    have q1 : decide (3000 < dx.length) = false := by simpa using hx2
    have q2 : decide (3000 < (b.length : Int)) = true := by simp; omega
    have q3 : decide (3000 < b.length) = true := by simpa using hb2
    clear hx hb
    go_enter Try.func5, Try.ntmps5
    go_wp2_with (go_at_call 7; refine (KN.out).mono ?_; rintro e w1 ⟨rfl, hf⟩; have F := Lib.hid (Fr0.trans ((Fr0.refl w).alloc _) hf); have BX := Lib.hid ((BX0.out).fr0 hf); have x0 : (w1).cell? ⟨w.heap.size, 0, none⟩ = some (.int .i64 xo) := (BX.out).cell 0 rfl; have x1 : (w1).cell? ⟨w.heap.size, 1, none⟩ = some (.int .i64 xn) := (BX.out).cell 1 rfl; have x2 : (w1).cell? ⟨w.heap.size, 2, none⟩ = some (.int .i64 xa) := (BX.out).cell 2 rfl; have x3 : (w1).cell? ⟨w.heap.size, 3, none⟩ = some (.int .i64 xt) := (BX.out).cell 3 rfl; have x4 : (w1).cell? ⟨w.heap.size, 4, none⟩ = some (.slice Ax dx.length cx) := (BX.out).cell 4 rfl; clear hf)
    go_ret
    exact ⟨rfl, F.out⟩
  have q0 : decide (3000 < (dx.length : Int)) = false := by simp; omega
  have q1 : decide (3000 < dx.length) = false := by simpa using hx2
  have q2 : decide (3000 < (b.length : Int)) = false := by simp; omega
  have q3 : decide (3000 < b.length) = false := by simpa using hb2
  have hx3 : dx.length ≤ 3000 := by omega
  have hb3 : b.length ≤ 3000 := by omega
  have X := Lib.hid hx
  have B := Lib.hid hb
  have hlen := fun h => iForm_len (old := xo) (new := xn) (ack := xa) (trash := xt) (d := dx) h
  have HF := Lib.hid (fun (h : may xo xn xa xt dx.length = 0) (w' : World) (hr : RdB w' (.slice Ax dx.length cx) dx) => iform_good hr h)
  have HR := Lib.hid (fun (h : may xo xn xa xt dx.length = 0) (v : Value) (w' : World) (hr : RdB w' v (iForm xo xn xa xt dx)) => read_form h (by omega) hr)
  have HB := Lib.hid (fun (h : may xo xn xa xt dx.length ≠ 0) (w' : World) => iform_bad (A := Ax) (c := cx) (w := w') h)
  have y0 : IntKind.i64.wrap ((dx.length : Int) + 40) = (dx.length : Int) + 40 := IntWalk.i64_in _ (by omega)
  clear hx hb hx2 hb2
  go_enter Try.func5, Try.ntmps5
  go_upto_region 5 with (go_at_call 7; refine (KN.out).mono ?_; rintro e w1 ⟨rfl, hf⟩; have F := Lib.hid (Fr0.trans ((Fr0.refl w).alloc _) hf); have BX := Lib.hid ((BX0.out).fr0 hf); have x0 : (w1).cell? ⟨w.heap.size, 0, none⟩ = some (.int .i64 xo) := (BX.out).cell 0 rfl; have x1 : (w1).cell? ⟨w.heap.size, 1, none⟩ = some (.int .i64 xn) := (BX.out).cell 1 rfl; have x2 : (w1).cell? ⟨w.heap.size, 2, none⟩ = some (.int .i64 xa) := (BX.out).cell 2 rfl; have x3 : (w1).cell? ⟨w.heap.size, 3, none⟩ = some (.int .i64 xt) := (BX.out).cell 3 rfl; have x4 : (w1).cell? ⟨w.heap.size, 4, none⟩ = some (.slice Ax dx.length cx) := (BX.out).cell 4 rfl; clear hf)
  by_cases hM : may xo xn xa xt dx.length = 0
  · have GM := Lib.hid hM
    have hfl := hlen hM
    obtain ⟨fx, hfx⟩ : ∃ f, f = iForm xo xn xa xt dx := ⟨_, rfl⟩
    rw [← hfx] at HF HR hfl
    have z1 : decide ((dx.length : Int) + 40 < (fx.length : Int)) = false := by simp; omega
    have z2 : decide (dx.length + 40 < fx.length) = false := by simp; omega
    clear hM hlen hfx
    go_upto_region 10 with (first
      | (go_at_call 11; refine (HF.out GM.out _ ((X.out).fr0 F.out)).mono ?_; rintro e w2 ⟨v, rfl, hown, hf⟩; obtain ⟨A2, c2, rfl, hr, -⟩ := own_text hown; have P := Lib.hid hr; replace F := Lib.hid ((F.out).trans hf); replace BX := Lib.hid ((BX.out).fr0 hf); clear x0 x1 x2 x3 x4 hf hown hr)
      | (go_at_call 8; refine (HR.out GM.out _ _ P.out).mono ?_; rintro e w3 ⟨A3, c3, rfl, hr, hf⟩; replace F := Lib.hid (Fr0.alloc ((F.out).trans hf) (.cells #[.int .i64 xo, .int .i64 xn, .int .i64 xa, .int .i64 xt, .slice A3 dx.length c3] 25)); replace BX := Lib.hid (Blk.alloc ((BX.out).fr0 hf) (.cells #[.int .i64 xo, .int .i64 xn, .int .i64 xa, .int .i64 xt, .slice A3 dx.length c3] 25)); have R := Lib.hid (RdB.fr0 hr ((Fr0.refl w3).alloc (.cells #[.int .i64 xo, .int .i64 xn, .int .i64 xa, .int .i64 xt, .slice A3 dx.length c3] 25))); have x0 : ((w3.alloc (.cells #[.int .i64 xo, .int .i64 xn, .int .i64 xa, .int .i64 xt, .slice A3 dx.length c3] 25))).cell? ⟨w.heap.size, 0, none⟩ = some (.int .i64 xo) := (BX.out).cell 0 rfl; have x1 : ((w3.alloc (.cells #[.int .i64 xo, .int .i64 xn, .int .i64 xa, .int .i64 xt, .slice A3 dx.length c3] 25))).cell? ⟨w.heap.size, 1, none⟩ = some (.int .i64 xn) := (BX.out).cell 1 rfl; have x2 : ((w3.alloc (.cells #[.int .i64 xo, .int .i64 xn, .int .i64 xa, .int .i64 xt, .slice A3 dx.length c3] 25))).cell? ⟨w.heap.size, 2, none⟩ = some (.int .i64 xa) := (BX.out).cell 2 rfl; have x3 : ((w3.alloc (.cells #[.int .i64 xo, .int .i64 xn, .int .i64 xa, .int .i64 xt, .slice A3 dx.length c3] 25))).cell? ⟨w.heap.size, 3, none⟩ = some (.int .i64 xt) := (BX.out).cell 3 rfl; have x4 : ((w3.alloc (.cells #[.int .i64 xo, .int .i64 xn, .int .i64 xa, .int .i64 xt, .slice A3 dx.length c3] 25))).cell? ⟨w.heap.size, 4, none⟩ = some (.slice Ax dx.length cx) := (BX.out).cell 4 rfl; clear hf hr)
      | (go_at_call 14; refine (same1_any (w := (w3.alloc (.cells #[.int .i64 xo, .int .i64 xn, .int .i64 xa, .int .i64 xt, .slice A3 dx.length c3] 25))) ((X.out).fr0 F.out) R.out (by simp)).mono ?_; rintro e w5 ⟨he, hf⟩; rw [alike_self] at he; subst he; replace F := Lib.hid ((F.out).trans hf); replace BX := Lib.hid ((BX.out).fr0 hf); have x4 : w5.cell? ⟨w.heap.size, 4, none⟩ = some (.slice Ax dx.length cx) := (BX.out).cell 4 rfl; clear hf))
    by_cases hG : iGood b
    · obtain ⟨o, n, a, t, rs, hm, hfb, hrl, hrd⟩ := read_back hG (by omega)
      have HM := Lib.hid hm
      have HFB := Lib.hid hfb
      have HRD := Lib.hid hrd
      have tb := strI b
      clear hG hm hfb hrd
      go_wp2_with (first
        | (go_at_call 8; refine (HRD.out _ _ ((B.out).fr0 F.out)).mono ?_; rintro e w6 ⟨A6, c6, rfl, hr, hf⟩; have F6 := Lib.hid (Fr0.alloc ((F.out).trans hf) (.cells #[.int .i64 o, .int .i64 n, .int .i64 a, .int .i64 t, .slice A6 rs.length c6] 25)); have R6 := Lib.hid (RdB.fr0 hr ((Fr0.refl w6).alloc (.cells #[.int .i64 o, .int .i64 n, .int .i64 a, .int .i64 t, .slice A6 rs.length c6] 25))); clear hf hr)
        | (go_at_call 11; refine (iform_good R6.out HM.out).mono ?_; rintro e w7 ⟨v, rfl, hown, hf⟩; rw [HFB.out] at hown; obtain ⟨A7, c7, rfl, hr7, hc7⟩ := own_text hown; have F7 := Lib.hid ((F6.out).trans hf); have hcb := conv_own ((B.out).fr0 F7.out); clear hf hown hr7))
      go_ret
      exact ⟨rfl, F7.out⟩
    · have HG := Lib.hid hG
      clear hG
      go_wp2_with (first
        | (go_at_call 8; refine (iread_bad ((B.out).fr0 F.out) (by omega) HG.out).mono ?_; rintro e w6 ⟨rfl, hf⟩; have F6 := Lib.hid (Fr0.alloc ((F.out).trans hf) (.cells #[.int .i64 0, .int .i64 0, .int .i64 0, .int .i64 0, .slice none 0 0] 25)); clear hf)
        | (go_at_call 14; refine (same0_any (w := (w6.alloc (.cells #[.int .i64 0, .int .i64 0, .int .i64 0, .int .i64 0, .slice none 0 0] 25))) (by simp)).mono ?_; rintro e w7 ⟨rfl, hf⟩; have F7 := Lib.hid ((F6.out).trans hf); clear hf))
      go_ret
      exact ⟨rfl, F7.out⟩
  · have GM := Lib.hid hM
    have b0 : (may xo xn xa xt dx.length == 0) = false := by simpa using hM
    obtain ⟨m, hmm⟩ : ∃ m, m = may xo xn xa xt dx.length := ⟨_, rfl⟩
    rw [← hmm] at b0 HB GM
    clear hM hlen hmm
    go_upto_region 10 with (first
      | (go_at_call 11; refine (HB.out GM.out _).mono ?_; rintro e w2 ⟨rfl, hf⟩; replace F := Lib.hid ((F.out).trans hf); clear x0 x1 x2 x3 x4 hf))
    by_cases hG : iGood b
    · obtain ⟨o, n, a, t, rs, hm, hfb, hrl, hrd⟩ := read_back hG (by omega)
      have HM := Lib.hid hm
      have HFB := Lib.hid hfb
      have HRD := Lib.hid hrd
      have tb := strI b
      clear hG hm hfb hrd
      go_wp2_with (first
        | (go_at_call 8; refine (HRD.out _ _ ((B.out).fr0 F.out)).mono ?_; rintro e w6 ⟨A6, c6, rfl, hr, hf⟩; have F6 := Lib.hid (Fr0.alloc ((F.out).trans hf) (.cells #[.int .i64 o, .int .i64 n, .int .i64 a, .int .i64 t, .slice A6 rs.length c6] 25)); have R6 := Lib.hid (RdB.fr0 hr ((Fr0.refl w6).alloc (.cells #[.int .i64 o, .int .i64 n, .int .i64 a, .int .i64 t, .slice A6 rs.length c6] 25))); clear hf hr)
        | (go_at_call 11; refine (iform_good R6.out HM.out).mono ?_; rintro e w7 ⟨v, rfl, hown, hf⟩; rw [HFB.out] at hown; obtain ⟨A7, c7, rfl, hr7, hc7⟩ := own_text hown; have F7 := Lib.hid ((F6.out).trans hf); have hcb := conv_own ((B.out).fr0 F7.out); clear hf hown hr7))
      go_ret
      exact ⟨rfl, F7.out⟩
    · have HG := Lib.hid hG
      clear hG
      go_wp2_with (first
        | (go_at_call 8; refine (iread_bad ((B.out).fr0 F.out) (by omega) HG.out).mono ?_; rintro e w6 ⟨rfl, hf⟩; have F6 := Lib.hid (Fr0.alloc ((F.out).trans hf) (.cells #[.int .i64 0, .int .i64 0, .int .i64 0, .int .i64 0, .slice none 0 0] 25)); clear hf)
        | (go_at_call 14; refine (same0_any (w := (w6.alloc (.cells #[.int .i64 0, .int .i64 0, .int .i64 0, .int .i64 0, .slice none 0 0] 25))) (by simp)).mono ?_; rintro e w7 ⟨rfl, hf⟩; have F7 := Lib.hid ((F6.out).trans hf); clear hf))
      go_ret
      exact ⟨rfl, F7.out⟩

namespace InstrBack
open Go.ChangeShapes Go.WideShapes Go.ChangeAt
open Go.ChangeMaps (open_string shut_string)

theorem own : ownKnob Try.prog.godebug = none := by kernel_rfl
theorem laidOut : laidOutB Try.prog = true := by kernel_rfl

set_option maxRecDepth 100000 in
theorem lifted (os : Os) (started : os.Started) (H : Type) (enc : TypeId × Value → H) :
    ReturnsInHanded {} Try.checked os 5 .any (Rows.instrBackSpec.pre6 enc Try.prog Try.f5 Rows.instrBackRow.domain false) (Rows.instrBackSpec.post enc Try.prog Try.f5 false true false false) := by
  refine returnsInHanded_of_change (C := Try.checked) own started (by kernel_rfl) Try.func5
    (ChangeSpec.witness6 (enc := enc) (C := Try.checked) false ⟨#[], #[.agg #[.int .i64 0, .int .i64 0, .int .i64 0, .int .i64 0, .slice none 0 0], .slice none 0 0], []⟩ 8 (by kernel_rfl) (by kernel_rfl) (by kernel_rfl) (by kernel_rfl)) ?_
  intro W base args ds gs before hval0 hW hcnd _
  have hval : ∀ (j : Nat) t v, Try.f5.params[j]? = some t → args[j]? = some v → Value.okWide Try.prog W .any base t v := hval0
  have hW' := hW
  obtain ⟨p, q, hA0, hV, rfl, hfz, hnd⟩ := hW
  have hA : DataW.TrodAll enc Try.prog W 0 (fun _ => true) true Try.f5.params.toList args.toList ds p := hA0
  rw [Try.params5] at hA hval
  obtain ⟨v0, vs0, d0', ds0, p0, q0, hargs, rfl, rfl, h0, r0⟩ := trodAll_cons hA
  obtain ⟨v1, vs1, d1', ds1, p1, q1, rfl, rfl, rfl, h1, r1⟩ := trodAll_cons r0
  obtain ⟨rfl, rfl, rfl⟩ := trodAll_nil r1
  obtain rfl : args = #[v0, v1] := by cases args; simp_all
  obtain ⟨rfl, rfl⟩ := trodVars_none hV
  have k0 := h0
  have lt0 : ∀ x ∈ p0, x.block < W.heap.size := by obtain ⟨m, hm⟩ := k0; exact DataW.trod_lt m _ _ _ hm
  obtain ⟨y0, rfl, hy0⟩ := arg_instr (tb := 22) (eb := 5) Try.underlying25 (by kernel_rfl) (by kernel_rfl)
    (fun j hj => by rcases (by omega : j = 0 ∨ j = 1 ∨ j = 2 ∨ j = 3) with rfl | rfl | rfl | rfl <;> exact ⟨_, rfl, Try.underlying3⟩) ⟨_, rfl, rfl⟩ Try.underlying22 Try.underlying5 (by kernel_rfl) (hval 0 25 v0 rfl rfl) h0
  have k1 := h1
  have lt1 : ∀ x ∈ p1, x.block < W.heap.size := by obtain ⟨m, hm⟩ := k1; exact DataW.trod_lt m _ _ _ hm
  obtain ⟨A1, n1, c1, rfl⟩ := okWide_slice Try.underlying22 (hval 1 22 v1 rfl rfl)
  obtain ⟨fuel1, hf1⟩ := h1
  obtain ⟨d1, hy1⟩ := arg_bytes Try.underlying22 Try.underlying5 (by kernel_rfl) hf1
  clear hA0 hval0
  refine (instrBack_any hy0 hy1).mono fun e W' ⟨he, hfr⟩ => ?_
  have bel : Below W.heap.size W W' := Fr0.below hfr
  subst he
  exact ⟨_, rfl, _, _, _, [], _, [], hW', trodAll_mk1 (shut_bool Try.underlying4 _), (trodAll_cons_mk (Below.trod laidOut (by kernel_rfl) (of_decide_eq_true (by kernel_rfl)) k0 bel lt0) (trodAll_cons_mk (Below.trod laidOut (by kernel_rfl) (of_decide_eq_true (by kernel_rfl)) k1 bel lt1) trodAll_mk0)), rfl, bel.frame _, fun h => by cases h⟩

theorem over : Rows.instrBackRow.holds Try.pinned (OpenSpec.ofChange Rows.instrBackSpec) :=
  OpenClaim.holds_of_wide 5 Try.f5 rfl rfl rfl rfl rfl rfl rfl ⟨rfl, rfl, rfl, rfl, rfl⟩ rfl rfl rfl rfl rfl (by kernel_rfl) Try.func5 (by kernel_rfl)
    (of_decide_eq_true (by kernel_rfl)) (by unfold Func.isWrapper; first | (rw [if_pos (by decide +kernel)]; kernel_rfl) | (rw [if_neg (by decide +kernel)]; exact ⟨rfl, rfl⟩))
    (fun os started H enc _ => lifted os started H enc)

theorem proved : Rows.InstrBackSaid := over
#print axioms proved
end InstrBack
end Go.Proofs.Ytkgjmfmnkcfabaa
