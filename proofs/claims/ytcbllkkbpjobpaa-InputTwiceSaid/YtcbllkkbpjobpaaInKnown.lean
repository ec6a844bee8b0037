/- The chapter's rows hold. No condition. -/
import Derived.Test.YtcbllkkbpjobpaaInApply
import Derived.Test.YtcbllkkbpjobpaaOwn
import Derived.Lib.SlBytesConst
set_option linter.unusedVariables false
set_option linter.unusedSimpArgs false
namespace Go.Proofs.Ytcbllkkbpjobpaa
open Go.RowKit

theorem form_lt (n : Nat) (h : n < 128) : form n = [UInt8.ofNat n] := by
  unfold form
  rw [show n / 128 = 0 by omega, hi_zero, show n % 128 = n by omega]; rfl
def d0 : Dd := ⟨1, [97, 98], 0, 0⟩
theorem f0 : formD d0 = [1, 2, 97, 98] := by
  unfold formD d0 textForm
  simp only [if_true]
  rw [show (1 : Int).toNat = 1 from rfl, form_lt 1 (by decide), show ([97, 98] : List UInt8).length = 2 from rfl, form_lt 2 (by decide)]
  rfl
theorem kA : addP 0 [] d0 = (0, [d0], 0) := by decide
theorem kC : cutP 0 [d0] 1 = (1, [], 0) := by decide
theorem kD : diffP 0 [] 0 [d0] = ([1, 2, 97, 98], 0) := by
  have h : diffP 0 [] 0 [d0] = (formsD (sinceL 0 [d0] (cntS 0 [])), 0) := by unfold diffP; rw [if_pos (by decide)]
  rw [h, show sinceL 0 [d0] (cntS 0 []) = [d0] by decide]
  unfold formsD
  simp [f0]
theorem kR : dRead [3, 4] = some [⟨3, [], 0, 0⟩, ⟨4, [], 0, 0⟩] := by decide
theorem kP : applyP 0 [] [3, 4] = (0, [⟨3, [], 0, 0⟩, ⟨4, [], 0, 0⟩], 0) := by
  unfold applyP
  rw [kR]
  decide
theorem k1_any (w : World) : Calls Try.prog 11 #[.agg #[.int .i64 0, .slice none 0 0], .agg #[.int .i64 1, .slice (some ⟨w.heap.size, 0, none⟩) 2 2, .int .i64 0, .int .i64 0]] (w.alloc (.cells #[.int .u8 97, .int .u8 98] 5 (2, 3))) fun e w' =>
    ∃ B c, e = .returned (.tuple #[.agg #[.int .i64 0, .slice B 1 c], .int .i64 0]) ∧ Ds w' (.slice B 1 c) [d0] ∧ Fr0 w w' := by
  have h := add_any (b := 0) (A := none) (c := 0) (l := []) (d := d0) (Bd := some ⟨w.heap.size, 0, none⟩) (ed := 2) (Ds.nil (w.alloc (.cells #[.int .u8 97, .int .u8 98] 5 (2, 3)))) (lit_bytes w 5 [97, 98] (by decide) (2, 3))
  refine Calls.mono h ?_
  rintro e w' ⟨B, c, he, hd, hf⟩
  rw [kA] at he hd
  exact ⟨B, c, he, hd.ds (fun v t h => h.rd), Fr0.trans ((Fr0.refl w).alloc _) hf⟩
theorem k2_any {B : Option Addr} {c : Nat} {w : World} (h : Ds w (.slice B 1 c) [d0]) : Calls Try.prog 12 #[.agg #[.int .i64 0, .slice B 1 c], .int .i64 1] w fun e w' => ∃ B' c', e = .returned (.tuple #[.agg #[.int .i64 1, .slice B' 0 c'], .int .i64 0]) ∧ Fr0 w w' := by
  refine (cut_any (b := 0) (m := 1) h (by decide)).mono ?_
  rintro e w' ⟨B', c', he, hd, hf⟩
  rw [kC] at he
  exact ⟨B', c', he, hf⟩
theorem k3_any {B : Option Addr} {c : Nat} {w : World} (h : Ds w (.slice B 1 c) [d0]) : Calls Try.prog 18 #[.agg #[.int .i64 0, .slice none 0 0], .agg #[.int .i64 0, .slice B 1 c]] w fun e w' => ∃ B' c', e = .returned (.tuple #[.slice B' 4 c', .int .i64 0]) ∧ RdB w' (.slice B' 4 c') [1, 2, 97, 98] ∧ Fr0 w w' := by
  refine (diff_any (b1 := 0) (b2 := 0) (l1 := []) (Ds.nil w) h).mono ?_
  rintro e w' ⟨B', c', he, hd, hf⟩
  rw [kD] at he hd
  exact ⟨B', c', he, hd, hf⟩
theorem k4_any (w : World) : Calls Try.prog 19 #[.agg #[.int .i64 0, .slice none 0 0], .slice (some ⟨w.heap.size, 0, none⟩) 2 2] (w.alloc (.cells #[.int .u8 3, .int .u8 4] 5)) fun e w' =>
    ∃ B c, e = .returned (.tuple #[.agg #[.int .i64 0, .slice B 2 c], .int .i64 0]) ∧ Ds w' (.slice B 2 c) [⟨3, [], 0, 0⟩, ⟨4, [], 0, 0⟩] ∧ Fr0 w w' := by
  have h := apply_any (b := 0) (A := none) (c := 0) (l := []) (D := [3, 4]) (Ds.nil (w.alloc (.cells #[.int .u8 3, .int .u8 4] 5))) (lit_bytes w 5 [3, 4] (by decide) (0, 0)) (by decide)
  refine Calls.mono h ?_
  rintro e w' ⟨B, c, he, hd, hf⟩
  rw [kP] at he hd
  exact ⟨B, c, he, hd.ds (fun v t h => h.rd), Fr0.trans ((Fr0.refl w).alloc _) hf⟩
theorem k5_any {B : Option Addr} {c : Nat} {w : World} (h : Ds w (.slice B 1 c) [d0]) : Calls Try.prog 23 #[.agg #[.int .i64 0, .slice B 1 c]] w fun e w' => e = .returned (.int .i64 1) ∧ Fr0 w w' := count_any (b := 0) h
set_option maxHeartbeats 4000000 in
set_option maxRecDepth 100000 in
theorem known21_any (w : World) : Calls Try.prog 8 #[] w fun e w' => e = .returned (.bool true) ∧ Fr0 w w' := by
  have hcv := fun (w : World) (C : Array Value) (n c : Nat) => Lib.run_convert_bytes_const (P := Try.prog) w 26 5 C n c Try.underlying26 Try.underlying5
  have q1 : ((str [1, 2, 97, 98]).toList == [1, 2, 97, 98]) = true := by rw [ByteArray.toList_eq]; rfl
  go_enter Try.func8, Try.ntmps8
  go_wp2_with (first
    | (go_at_call 11; refine (k1_any w).mono ?_; rintro e w1 ⟨B1, c1, rfl, hd, hf⟩; have F1 := Lib.hid (hf.alloc (.cells #[.int .i64 0, .slice B1 1 c1] 24)); have D1 := Lib.hid (hd.fr0 ((Fr0.refl w1).alloc (.cells #[.int .i64 0, .slice B1 1 c1] 24))); have X1 := Lib.hid (Blk.new w1 #[.int .i64 0, .slice B1 1 c1] 24); clear hd hf)
    | (go_at_call 12; refine (k2_any D1.out).mono ?_; rintro e w2 ⟨B2, c2, rfl, hf⟩; have G2 := hf.alloc (.cells #[.int .i64 1, .slice B2 0 c2] 24); have F2 := Lib.hid (Fr0.trans F1.out G2); have D2 := Lib.hid ((D1.out).fr0 G2); have X2 := Lib.hid ((X1.out).fr0 G2); have Y2 := Lib.hid (Blk.new w2 #[.int .i64 1, .slice B2 0 c2] 24); have s0 := ((X1.out).fr0 G2).cell 0 rfl; have s1 := ((X1.out).fr0 G2).cell 1 rfl; clear hf G2)
    | (go_at_call 18; refine (k3_any D2.out).mono ?_; rintro e w3 ⟨B3, c3, rfl, hr, hf⟩; have F3 := Lib.hid (Fr0.trans F2.out hf); have D3 := Lib.hid ((D2.out).fr0 hf); have X3 := Lib.hid ((X2.out).fr0 hf); have Y3 := Lib.hid ((Y2.out).fr0 hf); have R3 := Lib.hid hr; clear hf hr)
    | (go_at_call 19; refine (k4_any w3).mono ?_; rintro e w4 ⟨B4, c4, rfl, hd, hf⟩; have G4 := hf.alloc (.cells #[.int .i64 0, .slice B4 2 c4] 24); have F4 := Lib.hid (Fr0.trans F3.out G4); have D4 := Lib.hid ((D3.out).fr0 G4); have X4 := Lib.hid ((X3.out).fr0 G4); have Y4 := Lib.hid ((Y3.out).fr0 G4); have R4 := Lib.hid ((R3.out).fr0 G4); have Z4 := Lib.hid (Blk.new w4 #[.int .i64 0, .slice B4 2 c4] 24); have E4 := Lib.hid (hd.fr0 ((Fr0.refl w4).alloc (.cells #[.int .i64 0, .slice B4 2 c4] 24))); have u0 := (X4.out).cell 0 rfl; have u1 := (X4.out).cell 1 rfl; clear hf hd G4)
    | (go_at_call 23; refine (k5_any D4.out).mono ?_; rintro e w5 ⟨rfl, hf⟩; have F5 := Lib.hid (Fr0.trans F4.out hf); have v0 := ((Y4.out).fr0 hf).cell 0 rfl; have v1 := ((Y4.out).fr0 hf).cell 1 rfl; have v2 := ((Z4.out).fr0 hf).cell 1 rfl; have hcv3 := conv_ownN (n := 4) rfl ((R4.out).fr0 hf); obtain ⟨gE, oE, BE, eE, rfl, hlt, -, t0, -, -, -, -⟩ := ((E4.out).fr0 hf).cell (i := 1) (by decide); replace t0 : w5.cell? ⟨gE, oE + 4, none⟩ = some (.int .i64 4) := t0; clear hf))
  go_ret
  exact ⟨rfl, F5.out⟩
end Go.Proofs.Ytcbllkkbpjobpaa
