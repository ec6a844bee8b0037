/- The chapter's rows of stage 22: 'known' answers true. Conditions stand in the statements. -/
import Derived.Test.YtkgjmfmnkcfabaaIRead
import Derived.Test.YtkgjmfmnkcfabaaISame
import Derived.Lib.SlBytesConst
namespace Go.Proofs.Ytkgjmfmnkcfabaa
open Go.RowKit

theorem form_small (n : Nat) (h : n < 128) : form n = [UInt8.ofNat n] := by
  rw [form, Nat.div_eq_of_lt h, hi_zero, Nat.mod_eq_of_lt h]; rfl
theorem iread_good {v : Value} {b : List UInt8} {w : World} (hb : RdB w v b) (hn : b.length ≤ 1000000) (hg : iGood b) :
    Calls Try.prog 8 #[v] w fun e w' => ∃ A c, e = .returned (.tuple #[.agg #[.int .i64 (numI (iNums b).1.1), .int .i64 (numI (iNums b).1.1 + numI (iNums b).1.2.1), .int .i64 (numI (iNums b).1.2.2.1), .int .i64 (numI (iNums b).1.1 - numI (iNums b).1.2.2.2), .slice A (iNums b).2.1.length c], .int .i64 0]) ∧ RdB w' (.slice A (iNums b).2.1.length c) (iNums b).2.1 ∧ Fr0 w w' := by
  refine (iread_any hb hn).mono ?_
  rintro e w' ⟨hf, ⟨h, -⟩ | ⟨-, A, c, he, hr⟩⟩
  · exact absurd hg h
  · exact ⟨A, c, he, hr, hf⟩
theorem iread_bad {v : Value} {b : List UInt8} {w : World} (hb : RdB w v b) (hn : b.length ≤ 1000000) (hg : ¬ iGood b) :
    Calls Try.prog 8 #[v] w fun e w' => e = .returned (.tuple #[.agg #[.int .i64 0, .int .i64 0, .int .i64 0, .int .i64 0, .slice none 0 0], .int .i64 4]) ∧ Fr0 w w' := by
  refine (iread_any hb hn).mono ?_
  rintro e w' ⟨hf, ⟨-, he⟩ | ⟨h, -⟩⟩
  · exact ⟨he, hf⟩
  · exact absurd h hg
theorem nums0 : iNums [0, 0, 0, 0] = ((0, 0, 0, 0), [], 0) := by decide
theorem nums1 : iNums [1, 0, 0, 2] = ((1, 0, 0, 2), [], 0) := by decide
theorem good0 : iGood [0, 0, 0, 0] := by unfold iGood; rw [nums0]; decide
theorem bad1 : ¬ iGood [1, 0, 0, 2] := by unfold iGood; rw [nums1]; decide
theorem form5 : iForm 3 5 9 1 [120] = [3, 2, 9, 2, 120] := by
  unfold iForm
  rw [show (3 : Int).toNat = 3 from rfl, show ((5 : Int) - 3).toNat = 2 from rfl, show (9 : Int).toNat = 9 from rfl, show ((3 : Int) - 1).toNat = 2 from rfl, form_small 3 (by decide), form_small 2 (by decide), form_small 9 (by decide)]
  decide
theorem read0_any {v : Value} {w : World} (hb : RdB w v [0, 0, 0, 0]) :
    Calls Try.prog 8 #[v] w fun e w' => ∃ A c, e = .returned (.tuple #[.agg #[.int .i64 0, .int .i64 0, .int .i64 0, .int .i64 0, .slice A 0 c], .int .i64 0]) ∧ RdB w' (.slice A 0 c) [] ∧ Fr0 w w' := by
  refine (iread_good hb (by decide) good0).mono ?_
  rintro e w' ⟨A, c, he, hr, hf⟩
  rw [nums0] at he hr
  exact ⟨A, c, he, hr, hf⟩

theorem lit1 (w : World) (fz : Nat × Nat) : RdB (w.alloc (.cells #[.int .u8 120] 5 fz)) (.slice (some ⟨w.heap.size, 0, none⟩) 1 1) [120] := lit_bytes w 5 [120] (by decide) fz
theorem lit4 (w : World) (a b c d : UInt8) (fz : Nat × Nat) : RdB (w.alloc (.cells #[.int .u8 (a.toNat : Int), .int .u8 (b.toNat : Int), .int .u8 (c.toNat : Int), .int .u8 (d.toNat : Int)] 5 fz)) (.slice (some ⟨w.heap.size, 0, none⟩) 4 4) [a, b, c, d] := lit_bytes w 5 [a, b, c, d] (by simp) fz
theorem k1_any (w : World) (fz : Nat × Nat) : Calls Try.prog 11 #[.agg #[.int .i64 3, .int .i64 5, .int .i64 9, .int .i64 1, .slice (some ⟨w.heap.size, 0, none⟩) 1 1]] (w.alloc (.cells #[.int .u8 120] 5 fz)) fun e w' =>
    ∃ A c, e = .returned (.tuple #[.slice A 5 c, .int .i64 0]) ∧ RdB w' (.slice A 5 c) [3, 2, 9, 2, 120] ∧ Fr0 w w' := by
  refine (iform_good (lit1 w fz) (by decide)).mono ?_
  rintro e w' ⟨v, rfl, hown, hf⟩
  rw [form5] at hown
  obtain ⟨A1, c1, rfl, hr, -⟩ := own_textN (n := 5) rfl hown
  exact ⟨A1, c1, rfl, hr, Fr0.trans ((Fr0.refl w).alloc _) hf⟩
theorem k2_any (w : World) : Calls Try.prog 8 #[.slice (some ⟨w.heap.size, 0, none⟩) 4 4] (w.alloc (.cells #[.int .u8 0, .int .u8 0, .int .u8 0, .int .u8 0] 5)) fun e w' =>
    ∃ A c, e = .returned (.tuple #[.agg #[.int .i64 0, .int .i64 0, .int .i64 0, .int .i64 0, .slice A 0 c], .int .i64 0]) ∧ RdB w' (.slice A 0 c) [] ∧ Fr0 w w' := by
  refine (read0_any (lit4 w 0 0 0 0 (0, 0))).mono ?_
  rintro e w' ⟨A, c, rfl, hr, hf⟩
  exact ⟨A, c, rfl, hr, Fr0.trans ((Fr0.refl w).alloc _) hf⟩
theorem k3_any (w : World) (g : Nat) (hg : g = w.heap.size) : Calls Try.prog 8 #[.slice (some ⟨g, 0, none⟩) 4 4] (w.alloc (.cells #[.int .u8 1, .int .u8 0, .int .u8 0, .int .u8 2] 5)) fun e w' =>
    e = .returned (.tuple #[.agg #[.int .i64 0, .int .i64 0, .int .i64 0, .int .i64 0, .slice none 0 0], .int .i64 4]) ∧ Fr0 w w' := by
  subst hg
  refine (iread_bad (lit4 w 1 0 0 2 (0, 0)) (by decide) bad1).mono ?_
  rintro e w' ⟨rfl, hf⟩
  exact ⟨rfl, Fr0.trans ((Fr0.refl w).alloc _) hf⟩

set_option maxHeartbeats 1000000 in
set_option maxRecDepth 100000 in
theorem known22_any (w : World) : Calls Try.prog 7 #[] w fun e w' => e = .returned (.bool true) ∧ Fr0 w w' := by
  have hcv := fun (w : World) (C : Array Value) (n c : Nat) => Lib.run_convert_bytes_const (P := Try.prog) w 22 5 C n c Try.underlying22 Try.underlying5
  have q1 : ((str [3, 2, 9, 2, 120]).toList == [3, 2, 9, 2, 120]) = true := by rw [ByteArray.toList_eq]; rfl
  go_enter Try.func7, Try.ntmps7
  go_wp2_with (first
    | (go_at_call 11; refine (k1_any w (1, 2)).mono ?_; rintro e w1 ⟨A1, c1, rfl, hr, hf⟩; have F := Lib.hid hf; have B := Lib.hid hr; clear hf hr)
    | (have _q := X; go_at_call 8; refine (k3_any (w2.alloc (.cells #[.int .i64 0, .int .i64 0, .int .i64 0, .int .i64 0, .slice A2 0 c2] 25)) (w2.heap.size + 1) (by simp)).mono ?_; rintro e w3 ⟨rfl, hf⟩; have F3 := Lib.hid (Fr0.trans ((F.out).alloc (.cells #[.int .i64 0, .int .i64 0, .int .i64 0, .int .i64 0, .slice A2 0 c2] 25)) hf); have X3 := Lib.hid ((X.out).fr0 hf); have R3 := Lib.hid (((R2.out).fr0 ((Fr0.refl w2).alloc (.cells #[.int .i64 0, .int .i64 0, .int .i64 0, .int .i64 0, .slice A2 0 c2] 25))).fr0 hf); have B3 := Lib.hid (((B.out).fr0 ((Fr0.refl w2).alloc (.cells #[.int .i64 0, .int .i64 0, .int .i64 0, .int .i64 0, .slice A2 0 c2] 25))).fr0 hf); have hcv3 := conv_ownN (n := 5) rfl ((B3.out).fr0 ((Fr0.refl w3).alloc (.cells #[.int .i64 0, .int .i64 0, .int .i64 0, .int .i64 0, .slice none 0 0] 25)));
        have x0 : (w3.alloc (.cells #[.int .i64 0, .int .i64 0, .int .i64 0, .int .i64 0, .slice none 0 0] 25)).cell? ⟨w2.heap.size, 0, none⟩ = some (.int .i64 0) := ((X3.out).alloc _).cell 0 rfl;
        have x1 : (w3.alloc (.cells #[.int .i64 0, .int .i64 0, .int .i64 0, .int .i64 0, .slice none 0 0] 25)).cell? ⟨w2.heap.size, 1, none⟩ = some (.int .i64 0) := ((X3.out).alloc _).cell 1 rfl;
        have x2 : (w3.alloc (.cells #[.int .i64 0, .int .i64 0, .int .i64 0, .int .i64 0, .slice none 0 0] 25)).cell? ⟨w2.heap.size, 2, none⟩ = some (.int .i64 0) := ((X3.out).alloc _).cell 2 rfl;
        have x3 : (w3.alloc (.cells #[.int .i64 0, .int .i64 0, .int .i64 0, .int .i64 0, .slice none 0 0] 25)).cell? ⟨w2.heap.size, 3, none⟩ = some (.int .i64 0) := ((X3.out).alloc _).cell 3 rfl;
        have x4 : (w3.alloc (.cells #[.int .i64 0, .int .i64 0, .int .i64 0, .int .i64 0, .slice none 0 0] 25)).cell? ⟨w2.heap.size, 4, none⟩ = some (.slice A2 0 c2) := ((X3.out).alloc _).cell 4 rfl;
        have HS := Lib.hid (refSame_any (xo := 0) (xn := 0) (xa := 0) (xt := 0) (yo := 0) (yn := 0) (ya := 0) (yt := 0) ((R3.out).fr0 ((Fr0.refl w3).alloc (.cells #[.int .i64 0, .int .i64 0, .int .i64 0, .int .i64 0, .slice none 0 0] 25))) (RdB.nil (w3.alloc (.cells #[.int .i64 0, .int .i64 0, .int .i64 0, .int .i64 0, .slice none 0 0] 25)))); clear hf)
    | (go_at_call 8; refine (k2_any w1).mono ?_; rintro e w2 ⟨A2, c2, rfl, hr, hf⟩; replace F := Lib.hid ((F.out).trans hf); replace B := Lib.hid ((B.out).fr0 hf); have X := Lib.hid (Blk.new w2 #[.int .i64 0, .int .i64 0, .int .i64 0, .int .i64 0, .slice A2 0 c2] 25); have R2 := Lib.hid hr; clear hf hr)
    | (go_at_call 10; refine (HS.out).mono ?_; rintro e w4 ⟨he, hf⟩; rw [show alike 0 0 0 0 [] 0 0 0 0 [] = true from by decide] at he; subst he; have F4 := Lib.hid (Fr0.trans ((F3.out).alloc (.cells #[.int .i64 0, .int .i64 0, .int .i64 0, .int .i64 0, .slice none 0 0] 25)) hf); clear hf))
  go_ret
  exact ⟨rfl, F4.out⟩
end Go.Proofs.Ytkgjmfmnkcfabaa
