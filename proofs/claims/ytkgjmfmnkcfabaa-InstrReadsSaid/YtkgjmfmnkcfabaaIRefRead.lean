/- The reference's Read of an instruction. Conditions stand in the statements. -/
import Derived.Test.YtkgjmfmnkcfabaaIReadsLaw
import Derived.Test.YtkgjmfmnkcfabaaIRead
import Derived.Test.YtkgjmfmnkcfabaaRefMay
import Derived.Test.YtkgjmfmnkcfabaaWireRefRdr
namespace Go.Proofs.Ytkgjmfmnkcfabaa
open Go.RowKit

theorem iret2 {tmps : Array Value} {W : World} {g : Nat} {cs : Array Value} {u : Value} (hg : Blk W g cs 25) (hs : cs.size = 5) (h2 : tmps.getD 2 undef = .pointer (some ⟨g, 0, none⟩)) (h3 : tmps.getD 3 undef = u) :
    (results Try.f9 tmps).run Try.prog W = .ok (.tuple #[.agg cs, u]) W := by
  rw [results_cell_tmp rfl, h2, h3]
  have hl := run_loadVar_row (P := Try.prog) W g 25 25 cs (0, 0) _ hg Try.underlying25 rfl (by rw [hs]; kernel_rfl)
  simp [asAddr, Result.andThen, hl]

theorem blk_other5 {w1 : World} {g b : Nat} {vs : Array Value} {t : TypeId} (h : Blk w1 g vs t) (hne : g ≠ b) (x0 x1 x2 x3 x4 : Value) :
    Blk (((((w1.setCell ⟨b, 0, none⟩ x0).setCell ⟨b, 1, none⟩ x1).setCell ⟨b, 2, none⟩ x2).setCell ⟨b, 3, none⟩ x3).setCell ⟨b, 4, none⟩ x4) g vs t :=
  ((((h.other (p := ⟨b, 0, none⟩) hne x0).other (p := ⟨b, 1, none⟩) hne x1).other (p := ⟨b, 2, none⟩) hne x2).other (p := ⟨b, 3, none⟩) hne x3).other (p := ⟨b, 4, none⟩) hne x4

set_option maxHeartbeats 4000000 in
set_option maxRecDepth 100000 in
theorem refRead_any {v : Value} {b : List UInt8} {w : World} (hb : RdB w v b) (hn : b.length ≤ 1000000) :
    Calls Try.prog 9 #[v] w fun e w' => Fr0 w w' ∧ ((¬ iGood b ∧ e = .returned (.tuple #[.agg #[.int .i64 0, .int .i64 0, .int .i64 0, .int .i64 0, .slice none 0 0], .int .i64 4])) ∨
      (iGood b ∧ ∃ A c, e = .returned (.tuple #[.agg #[.int .i64 (numI (iNums b).1.1), .int .i64 (numI (iNums b).1.1 + numI (iNums b).1.2.1), .int .i64 (numI (iNums b).1.2.2.1), .int .i64 (numI (iNums b).1.1 - numI (iNums b).1.2.2.2), .slice A (iNums b).2.1.length c], .int .i64 0]) ∧ RdB w' (.slice A (iNums b).2.1.length c) (iNums b).2.1)) := by
  obtain ⟨Ab, cb, rfl, -, -, -⟩ := hb.form
  obtain ⟨⟨n1, d1, e1⟩, h1⟩ : ∃ x, x = rNum b 0 := ⟨_, rfl⟩
  have l1 := rNum_left2 b 0
  rw [← h1] at l1
  simp only at l1
  have m1 := rNum_lt2 b 0
  rw [← h1] at m1
  simp only at m1
  obtain ⟨⟨n2, d2, e2⟩, h2⟩ : ∃ x, x = rNum d1 e1 := ⟨_, rfl⟩
  have l2 := rNum_left2 d1 e1
  rw [← h2] at l2
  simp only at l2
  have m2 := rNum_lt2 d1 e1
  rw [← h2] at m2
  simp only at m2
  obtain ⟨⟨n3, d3, e3⟩, h3⟩ : ∃ x, x = rNum d2 e2 := ⟨_, rfl⟩
  have l3 := rNum_left2 d2 e2
  rw [← h3] at l3
  simp only at l3
  have m3 := rNum_lt2 d2 e2
  rw [← h3] at m3
  simp only at m3
  obtain ⟨⟨n4, d4, e4⟩, h4⟩ : ∃ x, x = rNum d3 e3 := ⟨_, rfl⟩
  have l4 := rNum_left2 d3 e3
  rw [← h4] at l4
  simp only at l4
  have m4 := rNum_lt2 d3 e3
  rw [← h4] at m4
  simp only at m4
  obtain ⟨⟨rs, ds, es⟩, h5⟩ : ∃ x, x = rRest d4 e4 := ⟨_, rfl⟩
  have hG : iGood b ↔ ((e1 = 0 ∧ n1 ≤ 1099511627776) ∧ (e2 = 0 ∧ n2 ≤ 1099511627776) ∧ (e3 = 0 ∧ n3 ≤ 1099511627776) ∧ (e4 = 0 ∧ n4 ≤ 1099511627776) ∧ n4 ≤ n1 ∧ may n1 ((n1 + n2 : Nat) : Int) n3 ((n1 - n4 : Nat) : Int) rs.length = 0) := by
    rw [good_iff]; unfold refGood; simp only; rw [← h1]; simp only; rw [← h2]; simp only; rw [← h3]; simp only; rw [← h4]; simp only; rw [← h5]
  have HG := Lib.hid hG
  have H5 := Lib.hid h5
  clear hG h5
  have H1 := Lib.hid h1
  have H2 := Lib.hid h2
  have H3 := Lib.hid h3
  have H4 := Lib.hid h4
  have B := Lib.hid hb
  clear h1 h2 h3 h4 hb
  go_enter Try.func9, Try.ntmps9
  go_wp2_with fail
  go_loopw [6] (fun v6 wr => ∃ i : Nat, v6 = .int .i64 (i : Int) ∧ Fr0 w wr ∧ Blk wr w.heap.size #[.int .i64 0, .int .i64 0, .int .i64 0, .int .i64 0, .slice none 0 0] 25 ∧ ((i = 0 ∧ Hid (True) ∧ Blk wr (w.heap.size + 1 + 1) #[.int .u64 0, .int .u64 0, .int .u64 0, .int .u64 0] 46 ∧ ∃ A c, RefV w.heap.size wr (w.heap.size + 1) A c b 0) ∨ (i = 1 ∧ Hid ((e1 = 0 ∧ n1 ≤ 1099511627776)) ∧ Blk wr (w.heap.size + 1 + 1) #[.int .u64 (n1 : Int), .int .u64 0, .int .u64 0, .int .u64 0] 46 ∧ ∃ A c, RefV w.heap.size wr (w.heap.size + 1) A c d1 e1) ∨ (i = 2 ∧ Hid ((e1 = 0 ∧ n1 ≤ 1099511627776) ∧ (e2 = 0 ∧ n2 ≤ 1099511627776)) ∧ Blk wr (w.heap.size + 1 + 1) #[.int .u64 (n1 : Int), .int .u64 (n2 : Int), .int .u64 0, .int .u64 0] 46 ∧ ∃ A c, RefV w.heap.size wr (w.heap.size + 1) A c d2 e2) ∨ (i = 3 ∧ Hid ((e1 = 0 ∧ n1 ≤ 1099511627776) ∧ (e2 = 0 ∧ n2 ≤ 1099511627776) ∧ (e3 = 0 ∧ n3 ≤ 1099511627776)) ∧ Blk wr (w.heap.size + 1 + 1) #[.int .u64 (n1 : Int), .int .u64 (n2 : Int), .int .u64 (n3 : Int), .int .u64 0] 46 ∧ ∃ A c, RefV w.heap.size wr (w.heap.size + 1) A c d3 e3) ∨ (i = 4 ∧ Hid ((e1 = 0 ∧ n1 ≤ 1099511627776) ∧ (e2 = 0 ∧ n2 ≤ 1099511627776) ∧ (e3 = 0 ∧ n3 ≤ 1099511627776) ∧ (e4 = 0 ∧ n4 ≤ 1099511627776)) ∧ Blk wr (w.heap.size + 1 + 1) #[.int .u64 (n1 : Int), .int .u64 (n2 : Int), .int .u64 (n3 : Int), .int .u64 (n4 : Int)] 46 ∧ ∃ A c, RefV w.heap.size wr (w.heap.size + 1) A c d4 e4))) (fun v6 _ => 4 - (intOf v6).toNat)
  case atStart =>
    refine ⟨0, rfl, (((Fr0.refl w).alloc _).alloc _).alloc _, ((Blk.new _ _ _).alloc _).alloc _, .inl ⟨rfl, trivial, ?_, Ab, cb, ?_, ?_, ?_, by omega⟩⟩
    · have := Blk.new ((w.alloc (.cells #[.int .i64 0, .int .i64 0, .int .i64 0, .int .i64 0, .slice none 0 0] 25)).alloc (.cells #[.slice Ab b.length cb, .int .i64 0] 45)) #[.int .u64 0, .int .u64 0, .int .u64 0, .int .u64 0] 46
      simpa using this
    · have := (Blk.new (w.alloc (.cells #[.int .i64 0, .int .i64 0, .int .i64 0, .int .i64 0, .slice none 0 0] 25)) #[.slice Ab b.length cb, .int .i64 0] 45).alloc (.cells #[.int .u64 0, .int .u64 0, .int .u64 0, .int .u64 0] 46)
      simpa using this
    · exact (B.out).fr0 ((((Fr0.refl w).alloc _).alloc _).alloc _)
    · exact fun h0 g hg => Rd.blk_lt B.out h0 g hg
  case round =>
    obtain ⟨i, rfl, hf, hz, hst⟩ := hrel
    rcases hst with ⟨rfl, hok, ha, A, c, hv⟩ | ⟨rfl, hok, ha, A, c, hv⟩ | ⟨rfl, hok, ha, A, c, hv⟩ | ⟨rfl, hok, ha, A, c, hv⟩ | ⟨rfl, hok, ha, A, c, hv⟩
    · have F := Lib.hid hf
      have Z := Lib.hid hz
      have N := Lib.hid ha
      have V := Lib.hid hv
      have OK := Lib.hid hok.out
      clear hf hz ha hv hok
      by_cases hE : e1 = 0
      · have b1 : (e1 != 0) = false := by simpa using hE
        by_cases hM : n1 ≤ 1099511627776
        · have b2 : decide (1099511627776 < (n1 : Int)) = false := by simp; omega
          have b3 : decide (1099511627776 < n1) = false := by simp; omega
          have HE := Lib.hid (And.intro hE hM)
          clear hE hM
          go_wp2_with (go_at_call 21; refine (fnum_any V.out (by omega)).mono ?_; rintro x w2 ⟨he', hf2, A2, c2, hv2⟩; rw [← H1.out] at he' hv2; simp only at he' hv2; subst he'; have V2 := Lib.hid hv2; have F2 := Lib.hid ((F.out).new hf2 (by omega)); have Z2 := Lib.hid ((Z.out).fr1 hf2 (by omega)); have N2 := Lib.hid ((N.out).fr1 hf2 (by omega)); have s0 : w2.cell? ⟨w.heap.size + 1 + 1, 0, none⟩ = some (.int .u64 0) := (N2.out).cell 0 rfl; have s1 : w2.frozen? ⟨w.heap.size + 1 + 1, 0, none⟩ = false := (N2.out).free 0; have r1 : (w2.setCell ⟨w.heap.size + 1 + 1, 0, none⟩ (.int .u64 (n1 : Int))).cell? ⟨w.heap.size + 1, 1, none⟩ = some (.int .i64 e1) := ((V2.out).blk.other (p := ⟨w.heap.size + 1 + 1, 0, none⟩) (by show w.heap.size + 1 ≠ w.heap.size + 1 + 1; omega) _).cell 1 rfl; have r2 : (w2.setCell ⟨w.heap.size + 1 + 1, 0, none⟩ (.int .u64 (n1 : Int))).cell? ⟨w.heap.size + 1 + 1, 0, none⟩ = some (.int .u64 (n1 : Int)) := ((N2.out).set 0 _).cell 0 rfl; have FW := Lib.hid (show Fr0 w (w2.setCell ⟨w.heap.size + 1 + 1, 0, none⟩ (.int .u64 (n1 : Int))) from Fr.setCell (p := ⟨w.heap.size + 1 + 1, 0, none⟩) F2.out (.inr (by show w.heap.size ≤ w.heap.size + 1 + 1; omega)) _); have ZW := Lib.hid ((Z2.out).other (p := ⟨w.heap.size + 1 + 1, 0, none⟩) (by show w.heap.size ≠ w.heap.size + 1 + 1; omega) (.int .u64 (n1 : Int))); clear hf2 hv2)
          go_roundw
          case measure => simp [intOf]
          case rel =>
            refine ⟨1, by simp, FW.out, ZW.out, (.inr (.inl ⟨rfl, ?_, (N2.out).set 0 _, A2, c2, ?_⟩))⟩
            · have o := OK.out; have h := HE.out; show _ ∧ _; first | exact h | exact ⟨o, h⟩ | exact ⟨o.1, o.2, h⟩ | exact ⟨o.1, o.2.1, o.2.2, h⟩
            · exact (V2.out).fr1 ((Fr1.refl (w.heap.size + 1 + 1) w2).set 0 _) (by omega) (by omega)
        · have b2 : decide (1099511627776 < (n1 : Int)) = true := by simp; omega
          have b3 : decide (1099511627776 < n1) = true := by simp; omega
          have HE := Lib.hid hM
          clear hE hM
          go_wp2_with (go_at_call 21; refine (fnum_any V.out (by omega)).mono ?_; rintro x w2 ⟨he', hf2, A2, c2, hv2⟩; rw [← H1.out] at he' hv2; simp only at he' hv2; subst he'; have V2 := Lib.hid hv2; have F2 := Lib.hid ((F.out).new hf2 (by omega)); have Z2 := Lib.hid ((Z.out).fr1 hf2 (by omega)); have N2 := Lib.hid ((N.out).fr1 hf2 (by omega)); have s0 : w2.cell? ⟨w.heap.size + 1 + 1, 0, none⟩ = some (.int .u64 0) := (N2.out).cell 0 rfl; have s1 : w2.frozen? ⟨w.heap.size + 1 + 1, 0, none⟩ = false := (N2.out).free 0; have r1 : (w2.setCell ⟨w.heap.size + 1 + 1, 0, none⟩ (.int .u64 (n1 : Int))).cell? ⟨w.heap.size + 1, 1, none⟩ = some (.int .i64 e1) := ((V2.out).blk.other (p := ⟨w.heap.size + 1 + 1, 0, none⟩) (by show w.heap.size + 1 ≠ w.heap.size + 1 + 1; omega) _).cell 1 rfl; have r2 : (w2.setCell ⟨w.heap.size + 1 + 1, 0, none⟩ (.int .u64 (n1 : Int))).cell? ⟨w.heap.size + 1 + 1, 0, none⟩ = some (.int .u64 (n1 : Int)) := ((N2.out).set 0 _).cell 0 rfl; have FW := Lib.hid (show Fr0 w (w2.setCell ⟨w.heap.size + 1 + 1, 0, none⟩ (.int .u64 (n1 : Int))) from Fr.setCell (p := ⟨w.heap.size + 1 + 1, 0, none⟩) F2.out (.inr (by show w.heap.size ≤ w.heap.size + 1 + 1; omega)) _); have ZW := Lib.hid ((Z2.out).other (p := ⟨w.heap.size + 1 + 1, 0, none⟩) (by show w.heap.size ≠ w.heap.size + 1 + 1; omega) (.int .u64 (n1 : Int))); have z0 : (w2.setCell ⟨w.heap.size + 1 + 1, 0, none⟩ (.int .u64 (n1 : Int))).cell? ⟨w.heap.size, 0, none⟩ = some (.int .i64 0) := (ZW.out).cell 0 rfl; have g0 : (w2.setCell ⟨w.heap.size + 1 + 1, 0, none⟩ (.int .u64 (n1 : Int))).frozen? ⟨w.heap.size, 0, none⟩ = false := (ZW.out).free 0; have z1 : (w2.setCell ⟨w.heap.size + 1 + 1, 0, none⟩ (.int .u64 (n1 : Int))).cell? ⟨w.heap.size, 1, none⟩ = some (.int .i64 0) := (ZW.out).cell 1 rfl; have g1 : (w2.setCell ⟨w.heap.size + 1 + 1, 0, none⟩ (.int .u64 (n1 : Int))).frozen? ⟨w.heap.size, 1, none⟩ = false := (ZW.out).free 1; have z2 : (w2.setCell ⟨w.heap.size + 1 + 1, 0, none⟩ (.int .u64 (n1 : Int))).cell? ⟨w.heap.size, 2, none⟩ = some (.int .i64 0) := (ZW.out).cell 2 rfl; have g2 : (w2.setCell ⟨w.heap.size + 1 + 1, 0, none⟩ (.int .u64 (n1 : Int))).frozen? ⟨w.heap.size, 2, none⟩ = false := (ZW.out).free 2; have z3 : (w2.setCell ⟨w.heap.size + 1 + 1, 0, none⟩ (.int .u64 (n1 : Int))).cell? ⟨w.heap.size, 3, none⟩ = some (.int .i64 0) := (ZW.out).cell 3 rfl; have g3 : (w2.setCell ⟨w.heap.size + 1 + 1, 0, none⟩ (.int .u64 (n1 : Int))).frozen? ⟨w.heap.size, 3, none⟩ = false := (ZW.out).free 3; have z4 : (w2.setCell ⟨w.heap.size + 1 + 1, 0, none⟩ (.int .u64 (n1 : Int))).cell? ⟨w.heap.size, 4, none⟩ = some (.slice none 0 0) := (ZW.out).cell 4 rfl; have g4 : (w2.setCell ⟨w.heap.size + 1 + 1, 0, none⟩ (.int .u64 (n1 : Int))).frozen? ⟨w.heap.size, 4, none⟩ = false := (ZW.out).free 4; clear hf2 hv2)
          refine bodyPost_ret (v := .tuple #[.agg #[.int .i64 0, .int .i64 0, .int .i64 0, .int .i64 0, .slice none 0 0], .int .i64 4]) (iret2 (blk_set5 ZW.out _ _ _ _ _) rfl rfl rfl) rfl ⟨fr_set5 FW.out (Nat.le_refl _) _ _ _ _ _, .inl ⟨fun h => ?_, rfl⟩⟩
          have h2 := (HG.out).1 h; have := HE.out; omega
      · have b1 : (e1 != 0) = true := by simpa using hE
        have HE := Lib.hid hE
        clear hE
        go_wp2_with (go_at_call 21; refine (fnum_any V.out (by omega)).mono ?_; rintro x w2 ⟨he', hf2, A2, c2, hv2⟩; rw [← H1.out] at he' hv2; simp only at he' hv2; subst he'; have V2 := Lib.hid hv2; have F2 := Lib.hid ((F.out).new hf2 (by omega)); have Z2 := Lib.hid ((Z.out).fr1 hf2 (by omega)); have N2 := Lib.hid ((N.out).fr1 hf2 (by omega)); have s0 : w2.cell? ⟨w.heap.size + 1 + 1, 0, none⟩ = some (.int .u64 0) := (N2.out).cell 0 rfl; have s1 : w2.frozen? ⟨w.heap.size + 1 + 1, 0, none⟩ = false := (N2.out).free 0; have r1 : (w2.setCell ⟨w.heap.size + 1 + 1, 0, none⟩ (.int .u64 (n1 : Int))).cell? ⟨w.heap.size + 1, 1, none⟩ = some (.int .i64 e1) := ((V2.out).blk.other (p := ⟨w.heap.size + 1 + 1, 0, none⟩) (by show w.heap.size + 1 ≠ w.heap.size + 1 + 1; omega) _).cell 1 rfl; have r2 : (w2.setCell ⟨w.heap.size + 1 + 1, 0, none⟩ (.int .u64 (n1 : Int))).cell? ⟨w.heap.size + 1 + 1, 0, none⟩ = some (.int .u64 (n1 : Int)) := ((N2.out).set 0 _).cell 0 rfl; have FW := Lib.hid (show Fr0 w (w2.setCell ⟨w.heap.size + 1 + 1, 0, none⟩ (.int .u64 (n1 : Int))) from Fr.setCell (p := ⟨w.heap.size + 1 + 1, 0, none⟩) F2.out (.inr (by show w.heap.size ≤ w.heap.size + 1 + 1; omega)) _); have ZW := Lib.hid ((Z2.out).other (p := ⟨w.heap.size + 1 + 1, 0, none⟩) (by show w.heap.size ≠ w.heap.size + 1 + 1; omega) (.int .u64 (n1 : Int))); have z0 : (w2.setCell ⟨w.heap.size + 1 + 1, 0, none⟩ (.int .u64 (n1 : Int))).cell? ⟨w.heap.size, 0, none⟩ = some (.int .i64 0) := (ZW.out).cell 0 rfl; have g0 : (w2.setCell ⟨w.heap.size + 1 + 1, 0, none⟩ (.int .u64 (n1 : Int))).frozen? ⟨w.heap.size, 0, none⟩ = false := (ZW.out).free 0; have z1 : (w2.setCell ⟨w.heap.size + 1 + 1, 0, none⟩ (.int .u64 (n1 : Int))).cell? ⟨w.heap.size, 1, none⟩ = some (.int .i64 0) := (ZW.out).cell 1 rfl; have g1 : (w2.setCell ⟨w.heap.size + 1 + 1, 0, none⟩ (.int .u64 (n1 : Int))).frozen? ⟨w.heap.size, 1, none⟩ = false := (ZW.out).free 1; have z2 : (w2.setCell ⟨w.heap.size + 1 + 1, 0, none⟩ (.int .u64 (n1 : Int))).cell? ⟨w.heap.size, 2, none⟩ = some (.int .i64 0) := (ZW.out).cell 2 rfl; have g2 : (w2.setCell ⟨w.heap.size + 1 + 1, 0, none⟩ (.int .u64 (n1 : Int))).frozen? ⟨w.heap.size, 2, none⟩ = false := (ZW.out).free 2; have z3 : (w2.setCell ⟨w.heap.size + 1 + 1, 0, none⟩ (.int .u64 (n1 : Int))).cell? ⟨w.heap.size, 3, none⟩ = some (.int .i64 0) := (ZW.out).cell 3 rfl; have g3 : (w2.setCell ⟨w.heap.size + 1 + 1, 0, none⟩ (.int .u64 (n1 : Int))).frozen? ⟨w.heap.size, 3, none⟩ = false := (ZW.out).free 3; have z4 : (w2.setCell ⟨w.heap.size + 1 + 1, 0, none⟩ (.int .u64 (n1 : Int))).cell? ⟨w.heap.size, 4, none⟩ = some (.slice none 0 0) := (ZW.out).cell 4 rfl; have g4 : (w2.setCell ⟨w.heap.size + 1 + 1, 0, none⟩ (.int .u64 (n1 : Int))).frozen? ⟨w.heap.size, 4, none⟩ = false := (ZW.out).free 4; clear hf2 hv2)
        refine bodyPost_ret (v := .tuple #[.agg #[.int .i64 0, .int .i64 0, .int .i64 0, .int .i64 0, .slice none 0 0], .int .i64 4]) (iret2 (blk_set5 ZW.out _ _ _ _ _) rfl rfl rfl) rfl ⟨fr_set5 FW.out (Nat.le_refl _) _ _ _ _ _, .inl ⟨fun h => ?_, rfl⟩⟩
        have h2 := (HG.out).1 h; have := HE.out; omega
    · have F := Lib.hid hf
      have Z := Lib.hid hz
      have N := Lib.hid ha
      have V := Lib.hid hv
      have OK := Lib.hid hok.out
      clear hf hz ha hv hok
      by_cases hE : e2 = 0
      · have b1 : (e2 != 0) = false := by simpa using hE
        by_cases hM : n2 ≤ 1099511627776
        · have b2 : decide (1099511627776 < (n2 : Int)) = false := by simp; omega
          have b3 : decide (1099511627776 < n2) = false := by simp; omega
          have HE := Lib.hid (And.intro hE hM)
          clear hE hM
          go_wp2_with (go_at_call 21; refine (fnum_any V.out (by omega)).mono ?_; rintro x w2 ⟨he', hf2, A2, c2, hv2⟩; rw [← H2.out] at he' hv2; simp only at he' hv2; subst he'; have V2 := Lib.hid hv2; have F2 := Lib.hid ((F.out).new hf2 (by omega)); have Z2 := Lib.hid ((Z.out).fr1 hf2 (by omega)); have N2 := Lib.hid ((N.out).fr1 hf2 (by omega)); have s0 : w2.cell? ⟨w.heap.size + 1 + 1, 1, none⟩ = some (.int .u64 0) := (N2.out).cell 1 rfl; have s1 : w2.frozen? ⟨w.heap.size + 1 + 1, 1, none⟩ = false := (N2.out).free 1; have r1 : (w2.setCell ⟨w.heap.size + 1 + 1, 1, none⟩ (.int .u64 (n2 : Int))).cell? ⟨w.heap.size + 1, 1, none⟩ = some (.int .i64 e2) := ((V2.out).blk.other (p := ⟨w.heap.size + 1 + 1, 1, none⟩) (by show w.heap.size + 1 ≠ w.heap.size + 1 + 1; omega) _).cell 1 rfl; have r2 : (w2.setCell ⟨w.heap.size + 1 + 1, 1, none⟩ (.int .u64 (n2 : Int))).cell? ⟨w.heap.size + 1 + 1, 1, none⟩ = some (.int .u64 (n2 : Int)) := ((N2.out).set 1 _).cell 1 rfl; have FW := Lib.hid (show Fr0 w (w2.setCell ⟨w.heap.size + 1 + 1, 1, none⟩ (.int .u64 (n2 : Int))) from Fr.setCell (p := ⟨w.heap.size + 1 + 1, 1, none⟩) F2.out (.inr (by show w.heap.size ≤ w.heap.size + 1 + 1; omega)) _); have ZW := Lib.hid ((Z2.out).other (p := ⟨w.heap.size + 1 + 1, 1, none⟩) (by show w.heap.size ≠ w.heap.size + 1 + 1; omega) (.int .u64 (n2 : Int))); clear hf2 hv2)
          go_roundw
          case measure => simp [intOf]
          case rel =>
            refine ⟨2, by simp, FW.out, ZW.out, (.inr (.inr (.inl ⟨rfl, ?_, (N2.out).set 1 _, A2, c2, ?_⟩)))⟩
            · have o := OK.out; have h := HE.out; show _ ∧ _; first | exact h | exact ⟨o, h⟩ | exact ⟨o.1, o.2, h⟩ | exact ⟨o.1, o.2.1, o.2.2, h⟩
            · exact (V2.out).fr1 ((Fr1.refl (w.heap.size + 1 + 1) w2).set 1 _) (by omega) (by omega)
        · have b2 : decide (1099511627776 < (n2 : Int)) = true := by simp; omega
          have b3 : decide (1099511627776 < n2) = true := by simp; omega
          have HE := Lib.hid hM
          clear hE hM
          go_wp2_with (go_at_call 21; refine (fnum_any V.out (by omega)).mono ?_; rintro x w2 ⟨he', hf2, A2, c2, hv2⟩; rw [← H2.out] at he' hv2; simp only at he' hv2; subst he'; have V2 := Lib.hid hv2; have F2 := Lib.hid ((F.out).new hf2 (by omega)); have Z2 := Lib.hid ((Z.out).fr1 hf2 (by omega)); have N2 := Lib.hid ((N.out).fr1 hf2 (by omega)); have s0 : w2.cell? ⟨w.heap.size + 1 + 1, 1, none⟩ = some (.int .u64 0) := (N2.out).cell 1 rfl; have s1 : w2.frozen? ⟨w.heap.size + 1 + 1, 1, none⟩ = false := (N2.out).free 1; have r1 : (w2.setCell ⟨w.heap.size + 1 + 1, 1, none⟩ (.int .u64 (n2 : Int))).cell? ⟨w.heap.size + 1, 1, none⟩ = some (.int .i64 e2) := ((V2.out).blk.other (p := ⟨w.heap.size + 1 + 1, 1, none⟩) (by show w.heap.size + 1 ≠ w.heap.size + 1 + 1; omega) _).cell 1 rfl; have r2 : (w2.setCell ⟨w.heap.size + 1 + 1, 1, none⟩ (.int .u64 (n2 : Int))).cell? ⟨w.heap.size + 1 + 1, 1, none⟩ = some (.int .u64 (n2 : Int)) := ((N2.out).set 1 _).cell 1 rfl; have FW := Lib.hid (show Fr0 w (w2.setCell ⟨w.heap.size + 1 + 1, 1, none⟩ (.int .u64 (n2 : Int))) from Fr.setCell (p := ⟨w.heap.size + 1 + 1, 1, none⟩) F2.out (.inr (by show w.heap.size ≤ w.heap.size + 1 + 1; omega)) _); have ZW := Lib.hid ((Z2.out).other (p := ⟨w.heap.size + 1 + 1, 1, none⟩) (by show w.heap.size ≠ w.heap.size + 1 + 1; omega) (.int .u64 (n2 : Int))); have z0 : (w2.setCell ⟨w.heap.size + 1 + 1, 1, none⟩ (.int .u64 (n2 : Int))).cell? ⟨w.heap.size, 0, none⟩ = some (.int .i64 0) := (ZW.out).cell 0 rfl; have g0 : (w2.setCell ⟨w.heap.size + 1 + 1, 1, none⟩ (.int .u64 (n2 : Int))).frozen? ⟨w.heap.size, 0, none⟩ = false := (ZW.out).free 0; have z1 : (w2.setCell ⟨w.heap.size + 1 + 1, 1, none⟩ (.int .u64 (n2 : Int))).cell? ⟨w.heap.size, 1, none⟩ = some (.int .i64 0) := (ZW.out).cell 1 rfl; have g1 : (w2.setCell ⟨w.heap.size + 1 + 1, 1, none⟩ (.int .u64 (n2 : Int))).frozen? ⟨w.heap.size, 1, none⟩ = false := (ZW.out).free 1; have z2 : (w2.setCell ⟨w.heap.size + 1 + 1, 1, none⟩ (.int .u64 (n2 : Int))).cell? ⟨w.heap.size, 2, none⟩ = some (.int .i64 0) := (ZW.out).cell 2 rfl; have g2 : (w2.setCell ⟨w.heap.size + 1 + 1, 1, none⟩ (.int .u64 (n2 : Int))).frozen? ⟨w.heap.size, 2, none⟩ = false := (ZW.out).free 2; have z3 : (w2.setCell ⟨w.heap.size + 1 + 1, 1, none⟩ (.int .u64 (n2 : Int))).cell? ⟨w.heap.size, 3, none⟩ = some (.int .i64 0) := (ZW.out).cell 3 rfl; have g3 : (w2.setCell ⟨w.heap.size + 1 + 1, 1, none⟩ (.int .u64 (n2 : Int))).frozen? ⟨w.heap.size, 3, none⟩ = false := (ZW.out).free 3; have z4 : (w2.setCell ⟨w.heap.size + 1 + 1, 1, none⟩ (.int .u64 (n2 : Int))).cell? ⟨w.heap.size, 4, none⟩ = some (.slice none 0 0) := (ZW.out).cell 4 rfl; have g4 : (w2.setCell ⟨w.heap.size + 1 + 1, 1, none⟩ (.int .u64 (n2 : Int))).frozen? ⟨w.heap.size, 4, none⟩ = false := (ZW.out).free 4; clear hf2 hv2)
          refine bodyPost_ret (v := .tuple #[.agg #[.int .i64 0, .int .i64 0, .int .i64 0, .int .i64 0, .slice none 0 0], .int .i64 4]) (iret2 (blk_set5 ZW.out _ _ _ _ _) rfl rfl rfl) rfl ⟨fr_set5 FW.out (Nat.le_refl _) _ _ _ _ _, .inl ⟨fun h => ?_, rfl⟩⟩
          have h2 := (HG.out).1 h; have := HE.out; omega
      · have b1 : (e2 != 0) = true := by simpa using hE
        have HE := Lib.hid hE
        clear hE
        go_wp2_with (go_at_call 21; refine (fnum_any V.out (by omega)).mono ?_; rintro x w2 ⟨he', hf2, A2, c2, hv2⟩; rw [← H2.out] at he' hv2; simp only at he' hv2; subst he'; have V2 := Lib.hid hv2; have F2 := Lib.hid ((F.out).new hf2 (by omega)); have Z2 := Lib.hid ((Z.out).fr1 hf2 (by omega)); have N2 := Lib.hid ((N.out).fr1 hf2 (by omega)); have s0 : w2.cell? ⟨w.heap.size + 1 + 1, 1, none⟩ = some (.int .u64 0) := (N2.out).cell 1 rfl; have s1 : w2.frozen? ⟨w.heap.size + 1 + 1, 1, none⟩ = false := (N2.out).free 1; have r1 : (w2.setCell ⟨w.heap.size + 1 + 1, 1, none⟩ (.int .u64 (n2 : Int))).cell? ⟨w.heap.size + 1, 1, none⟩ = some (.int .i64 e2) := ((V2.out).blk.other (p := ⟨w.heap.size + 1 + 1, 1, none⟩) (by show w.heap.size + 1 ≠ w.heap.size + 1 + 1; omega) _).cell 1 rfl; have r2 : (w2.setCell ⟨w.heap.size + 1 + 1, 1, none⟩ (.int .u64 (n2 : Int))).cell? ⟨w.heap.size + 1 + 1, 1, none⟩ = some (.int .u64 (n2 : Int)) := ((N2.out).set 1 _).cell 1 rfl; have FW := Lib.hid (show Fr0 w (w2.setCell ⟨w.heap.size + 1 + 1, 1, none⟩ (.int .u64 (n2 : Int))) from Fr.setCell (p := ⟨w.heap.size + 1 + 1, 1, none⟩) F2.out (.inr (by show w.heap.size ≤ w.heap.size + 1 + 1; omega)) _); have ZW := Lib.hid ((Z2.out).other (p := ⟨w.heap.size + 1 + 1, 1, none⟩) (by show w.heap.size ≠ w.heap.size + 1 + 1; omega) (.int .u64 (n2 : Int))); have z0 : (w2.setCell ⟨w.heap.size + 1 + 1, 1, none⟩ (.int .u64 (n2 : Int))).cell? ⟨w.heap.size, 0, none⟩ = some (.int .i64 0) := (ZW.out).cell 0 rfl; have g0 : (w2.setCell ⟨w.heap.size + 1 + 1, 1, none⟩ (.int .u64 (n2 : Int))).frozen? ⟨w.heap.size, 0, none⟩ = false := (ZW.out).free 0; have z1 : (w2.setCell ⟨w.heap.size + 1 + 1, 1, none⟩ (.int .u64 (n2 : Int))).cell? ⟨w.heap.size, 1, none⟩ = some (.int .i64 0) := (ZW.out).cell 1 rfl; have g1 : (w2.setCell ⟨w.heap.size + 1 + 1, 1, none⟩ (.int .u64 (n2 : Int))).frozen? ⟨w.heap.size, 1, none⟩ = false := (ZW.out).free 1; have z2 : (w2.setCell ⟨w.heap.size + 1 + 1, 1, none⟩ (.int .u64 (n2 : Int))).cell? ⟨w.heap.size, 2, none⟩ = some (.int .i64 0) := (ZW.out).cell 2 rfl; have g2 : (w2.setCell ⟨w.heap.size + 1 + 1, 1, none⟩ (.int .u64 (n2 : Int))).frozen? ⟨w.heap.size, 2, none⟩ = false := (ZW.out).free 2; have z3 : (w2.setCell ⟨w.heap.size + 1 + 1, 1, none⟩ (.int .u64 (n2 : Int))).cell? ⟨w.heap.size, 3, none⟩ = some (.int .i64 0) := (ZW.out).cell 3 rfl; have g3 : (w2.setCell ⟨w.heap.size + 1 + 1, 1, none⟩ (.int .u64 (n2 : Int))).frozen? ⟨w.heap.size, 3, none⟩ = false := (ZW.out).free 3; have z4 : (w2.setCell ⟨w.heap.size + 1 + 1, 1, none⟩ (.int .u64 (n2 : Int))).cell? ⟨w.heap.size, 4, none⟩ = some (.slice none 0 0) := (ZW.out).cell 4 rfl; have g4 : (w2.setCell ⟨w.heap.size + 1 + 1, 1, none⟩ (.int .u64 (n2 : Int))).frozen? ⟨w.heap.size, 4, none⟩ = false := (ZW.out).free 4; clear hf2 hv2)
        refine bodyPost_ret (v := .tuple #[.agg #[.int .i64 0, .int .i64 0, .int .i64 0, .int .i64 0, .slice none 0 0], .int .i64 4]) (iret2 (blk_set5 ZW.out _ _ _ _ _) rfl rfl rfl) rfl ⟨fr_set5 FW.out (Nat.le_refl _) _ _ _ _ _, .inl ⟨fun h => ?_, rfl⟩⟩
        have h2 := (HG.out).1 h; have := HE.out; omega
    · have F := Lib.hid hf
      have Z := Lib.hid hz
      have N := Lib.hid ha
      have V := Lib.hid hv
      have OK := Lib.hid hok.out
      clear hf hz ha hv hok
      by_cases hE : e3 = 0
      · have b1 : (e3 != 0) = false := by simpa using hE
        by_cases hM : n3 ≤ 1099511627776
        · have b2 : decide (1099511627776 < (n3 : Int)) = false := by simp; omega
          have b3 : decide (1099511627776 < n3) = false := by simp; omega
          have HE := Lib.hid (And.intro hE hM)
          clear hE hM
          go_wp2_with (go_at_call 21; refine (fnum_any V.out (by omega)).mono ?_; rintro x w2 ⟨he', hf2, A2, c2, hv2⟩; rw [← H3.out] at he' hv2; simp only at he' hv2; subst he'; have V2 := Lib.hid hv2; have F2 := Lib.hid ((F.out).new hf2 (by omega)); have Z2 := Lib.hid ((Z.out).fr1 hf2 (by omega)); have N2 := Lib.hid ((N.out).fr1 hf2 (by omega)); have s0 : w2.cell? ⟨w.heap.size + 1 + 1, 2, none⟩ = some (.int .u64 0) := (N2.out).cell 2 rfl; have s1 : w2.frozen? ⟨w.heap.size + 1 + 1, 2, none⟩ = false := (N2.out).free 2; have r1 : (w2.setCell ⟨w.heap.size + 1 + 1, 2, none⟩ (.int .u64 (n3 : Int))).cell? ⟨w.heap.size + 1, 1, none⟩ = some (.int .i64 e3) := ((V2.out).blk.other (p := ⟨w.heap.size + 1 + 1, 2, none⟩) (by show w.heap.size + 1 ≠ w.heap.size + 1 + 1; omega) _).cell 1 rfl; have r2 : (w2.setCell ⟨w.heap.size + 1 + 1, 2, none⟩ (.int .u64 (n3 : Int))).cell? ⟨w.heap.size + 1 + 1, 2, none⟩ = some (.int .u64 (n3 : Int)) := ((N2.out).set 2 _).cell 2 rfl; have FW := Lib.hid (show Fr0 w (w2.setCell ⟨w.heap.size + 1 + 1, 2, none⟩ (.int .u64 (n3 : Int))) from Fr.setCell (p := ⟨w.heap.size + 1 + 1, 2, none⟩) F2.out (.inr (by show w.heap.size ≤ w.heap.size + 1 + 1; omega)) _); have ZW := Lib.hid ((Z2.out).other (p := ⟨w.heap.size + 1 + 1, 2, none⟩) (by show w.heap.size ≠ w.heap.size + 1 + 1; omega) (.int .u64 (n3 : Int))); clear hf2 hv2)
          go_roundw
          case measure => simp [intOf]
          case rel =>
            refine ⟨3, by simp, FW.out, ZW.out, (.inr (.inr (.inr (.inl ⟨rfl, ?_, (N2.out).set 2 _, A2, c2, ?_⟩))))⟩
            · have o := OK.out; have h := HE.out; show _ ∧ _; first | exact h | exact ⟨o, h⟩ | exact ⟨o.1, o.2, h⟩ | exact ⟨o.1, o.2.1, o.2.2, h⟩
            · exact (V2.out).fr1 ((Fr1.refl (w.heap.size + 1 + 1) w2).set 2 _) (by omega) (by omega)
        · have b2 : decide (1099511627776 < (n3 : Int)) = true := by simp; omega
          have b3 : decide (1099511627776 < n3) = true := by simp; omega
          have HE := Lib.hid hM
          clear hE hM
          go_wp2_with (go_at_call 21; refine (fnum_any V.out (by omega)).mono ?_; rintro x w2 ⟨he', hf2, A2, c2, hv2⟩; rw [← H3.out] at he' hv2; simp only at he' hv2; subst he'; have V2 := Lib.hid hv2; have F2 := Lib.hid ((F.out).new hf2 (by omega)); have Z2 := Lib.hid ((Z.out).fr1 hf2 (by omega)); have N2 := Lib.hid ((N.out).fr1 hf2 (by omega)); have s0 : w2.cell? ⟨w.heap.size + 1 + 1, 2, none⟩ = some (.int .u64 0) := (N2.out).cell 2 rfl; have s1 : w2.frozen? ⟨w.heap.size + 1 + 1, 2, none⟩ = false := (N2.out).free 2; have r1 : (w2.setCell ⟨w.heap.size + 1 + 1, 2, none⟩ (.int .u64 (n3 : Int))).cell? ⟨w.heap.size + 1, 1, none⟩ = some (.int .i64 e3) := ((V2.out).blk.other (p := ⟨w.heap.size + 1 + 1, 2, none⟩) (by show w.heap.size + 1 ≠ w.heap.size + 1 + 1; omega) _).cell 1 rfl; have r2 : (w2.setCell ⟨w.heap.size + 1 + 1, 2, none⟩ (.int .u64 (n3 : Int))).cell? ⟨w.heap.size + 1 + 1, 2, none⟩ = some (.int .u64 (n3 : Int)) := ((N2.out).set 2 _).cell 2 rfl; have FW := Lib.hid (show Fr0 w (w2.setCell ⟨w.heap.size + 1 + 1, 2, none⟩ (.int .u64 (n3 : Int))) from Fr.setCell (p := ⟨w.heap.size + 1 + 1, 2, none⟩) F2.out (.inr (by show w.heap.size ≤ w.heap.size + 1 + 1; omega)) _); have ZW := Lib.hid ((Z2.out).other (p := ⟨w.heap.size + 1 + 1, 2, none⟩) (by show w.heap.size ≠ w.heap.size + 1 + 1; omega) (.int .u64 (n3 : Int))); have z0 : (w2.setCell ⟨w.heap.size + 1 + 1, 2, none⟩ (.int .u64 (n3 : Int))).cell? ⟨w.heap.size, 0, none⟩ = some (.int .i64 0) := (ZW.out).cell 0 rfl; have g0 : (w2.setCell ⟨w.heap.size + 1 + 1, 2, none⟩ (.int .u64 (n3 : Int))).frozen? ⟨w.heap.size, 0, none⟩ = false := (ZW.out).free 0; have z1 : (w2.setCell ⟨w.heap.size + 1 + 1, 2, none⟩ (.int .u64 (n3 : Int))).cell? ⟨w.heap.size, 1, none⟩ = some (.int .i64 0) := (ZW.out).cell 1 rfl; have g1 : (w2.setCell ⟨w.heap.size + 1 + 1, 2, none⟩ (.int .u64 (n3 : Int))).frozen? ⟨w.heap.size, 1, none⟩ = false := (ZW.out).free 1; have z2 : (w2.setCell ⟨w.heap.size + 1 + 1, 2, none⟩ (.int .u64 (n3 : Int))).cell? ⟨w.heap.size, 2, none⟩ = some (.int .i64 0) := (ZW.out).cell 2 rfl; have g2 : (w2.setCell ⟨w.heap.size + 1 + 1, 2, none⟩ (.int .u64 (n3 : Int))).frozen? ⟨w.heap.size, 2, none⟩ = false := (ZW.out).free 2; have z3 : (w2.setCell ⟨w.heap.size + 1 + 1, 2, none⟩ (.int .u64 (n3 : Int))).cell? ⟨w.heap.size, 3, none⟩ = some (.int .i64 0) := (ZW.out).cell 3 rfl; have g3 : (w2.setCell ⟨w.heap.size + 1 + 1, 2, none⟩ (.int .u64 (n3 : Int))).frozen? ⟨w.heap.size, 3, none⟩ = false := (ZW.out).free 3; have z4 : (w2.setCell ⟨w.heap.size + 1 + 1, 2, none⟩ (.int .u64 (n3 : Int))).cell? ⟨w.heap.size, 4, none⟩ = some (.slice none 0 0) := (ZW.out).cell 4 rfl; have g4 : (w2.setCell ⟨w.heap.size + 1 + 1, 2, none⟩ (.int .u64 (n3 : Int))).frozen? ⟨w.heap.size, 4, none⟩ = false := (ZW.out).free 4; clear hf2 hv2)
          refine bodyPost_ret (v := .tuple #[.agg #[.int .i64 0, .int .i64 0, .int .i64 0, .int .i64 0, .slice none 0 0], .int .i64 4]) (iret2 (blk_set5 ZW.out _ _ _ _ _) rfl rfl rfl) rfl ⟨fr_set5 FW.out (Nat.le_refl _) _ _ _ _ _, .inl ⟨fun h => ?_, rfl⟩⟩
          have h2 := (HG.out).1 h; have := HE.out; omega
      · have b1 : (e3 != 0) = true := by simpa using hE
        have HE := Lib.hid hE
        clear hE
        go_wp2_with (go_at_call 21; refine (fnum_any V.out (by omega)).mono ?_; rintro x w2 ⟨he', hf2, A2, c2, hv2⟩; rw [← H3.out] at he' hv2; simp only at he' hv2; subst he'; have V2 := Lib.hid hv2; have F2 := Lib.hid ((F.out).new hf2 (by omega)); have Z2 := Lib.hid ((Z.out).fr1 hf2 (by omega)); have N2 := Lib.hid ((N.out).fr1 hf2 (by omega)); have s0 : w2.cell? ⟨w.heap.size + 1 + 1, 2, none⟩ = some (.int .u64 0) := (N2.out).cell 2 rfl; have s1 : w2.frozen? ⟨w.heap.size + 1 + 1, 2, none⟩ = false := (N2.out).free 2; have r1 : (w2.setCell ⟨w.heap.size + 1 + 1, 2, none⟩ (.int .u64 (n3 : Int))).cell? ⟨w.heap.size + 1, 1, none⟩ = some (.int .i64 e3) := ((V2.out).blk.other (p := ⟨w.heap.size + 1 + 1, 2, none⟩) (by show w.heap.size + 1 ≠ w.heap.size + 1 + 1; omega) _).cell 1 rfl; have r2 : (w2.setCell ⟨w.heap.size + 1 + 1, 2, none⟩ (.int .u64 (n3 : Int))).cell? ⟨w.heap.size + 1 + 1, 2, none⟩ = some (.int .u64 (n3 : Int)) := ((N2.out).set 2 _).cell 2 rfl; have FW := Lib.hid (show Fr0 w (w2.setCell ⟨w.heap.size + 1 + 1, 2, none⟩ (.int .u64 (n3 : Int))) from Fr.setCell (p := ⟨w.heap.size + 1 + 1, 2, none⟩) F2.out (.inr (by show w.heap.size ≤ w.heap.size + 1 + 1; omega)) _); have ZW := Lib.hid ((Z2.out).other (p := ⟨w.heap.size + 1 + 1, 2, none⟩) (by show w.heap.size ≠ w.heap.size + 1 + 1; omega) (.int .u64 (n3 : Int))); have z0 : (w2.setCell ⟨w.heap.size + 1 + 1, 2, none⟩ (.int .u64 (n3 : Int))).cell? ⟨w.heap.size, 0, none⟩ = some (.int .i64 0) := (ZW.out).cell 0 rfl; have g0 : (w2.setCell ⟨w.heap.size + 1 + 1, 2, none⟩ (.int .u64 (n3 : Int))).frozen? ⟨w.heap.size, 0, none⟩ = false := (ZW.out).free 0; have z1 : (w2.setCell ⟨w.heap.size + 1 + 1, 2, none⟩ (.int .u64 (n3 : Int))).cell? ⟨w.heap.size, 1, none⟩ = some (.int .i64 0) := (ZW.out).cell 1 rfl; have g1 : (w2.setCell ⟨w.heap.size + 1 + 1, 2, none⟩ (.int .u64 (n3 : Int))).frozen? ⟨w.heap.size, 1, none⟩ = false := (ZW.out).free 1; have z2 : (w2.setCell ⟨w.heap.size + 1 + 1, 2, none⟩ (.int .u64 (n3 : Int))).cell? ⟨w.heap.size, 2, none⟩ = some (.int .i64 0) := (ZW.out).cell 2 rfl; have g2 : (w2.setCell ⟨w.heap.size + 1 + 1, 2, none⟩ (.int .u64 (n3 : Int))).frozen? ⟨w.heap.size, 2, none⟩ = false := (ZW.out).free 2; have z3 : (w2.setCell ⟨w.heap.size + 1 + 1, 2, none⟩ (.int .u64 (n3 : Int))).cell? ⟨w.heap.size, 3, none⟩ = some (.int .i64 0) := (ZW.out).cell 3 rfl; have g3 : (w2.setCell ⟨w.heap.size + 1 + 1, 2, none⟩ (.int .u64 (n3 : Int))).frozen? ⟨w.heap.size, 3, none⟩ = false := (ZW.out).free 3; have z4 : (w2.setCell ⟨w.heap.size + 1 + 1, 2, none⟩ (.int .u64 (n3 : Int))).cell? ⟨w.heap.size, 4, none⟩ = some (.slice none 0 0) := (ZW.out).cell 4 rfl; have g4 : (w2.setCell ⟨w.heap.size + 1 + 1, 2, none⟩ (.int .u64 (n3 : Int))).frozen? ⟨w.heap.size, 4, none⟩ = false := (ZW.out).free 4; clear hf2 hv2)
        refine bodyPost_ret (v := .tuple #[.agg #[.int .i64 0, .int .i64 0, .int .i64 0, .int .i64 0, .slice none 0 0], .int .i64 4]) (iret2 (blk_set5 ZW.out _ _ _ _ _) rfl rfl rfl) rfl ⟨fr_set5 FW.out (Nat.le_refl _) _ _ _ _ _, .inl ⟨fun h => ?_, rfl⟩⟩
        have h2 := (HG.out).1 h; have := HE.out; omega
    · have F := Lib.hid hf
      have Z := Lib.hid hz
      have N := Lib.hid ha
      have V := Lib.hid hv
      have OK := Lib.hid hok.out
      clear hf hz ha hv hok
      by_cases hE : e4 = 0
      · have b1 : (e4 != 0) = false := by simpa using hE
        by_cases hM : n4 ≤ 1099511627776
        · have b2 : decide (1099511627776 < (n4 : Int)) = false := by simp; omega
          have b3 : decide (1099511627776 < n4) = false := by simp; omega
          have HE := Lib.hid (And.intro hE hM)
          clear hE hM
          go_wp2_with (go_at_call 21; refine (fnum_any V.out (by omega)).mono ?_; rintro x w2 ⟨he', hf2, A2, c2, hv2⟩; rw [← H4.out] at he' hv2; simp only at he' hv2; subst he'; have V2 := Lib.hid hv2; have F2 := Lib.hid ((F.out).new hf2 (by omega)); have Z2 := Lib.hid ((Z.out).fr1 hf2 (by omega)); have N2 := Lib.hid ((N.out).fr1 hf2 (by omega)); have s0 : w2.cell? ⟨w.heap.size + 1 + 1, 3, none⟩ = some (.int .u64 0) := (N2.out).cell 3 rfl; have s1 : w2.frozen? ⟨w.heap.size + 1 + 1, 3, none⟩ = false := (N2.out).free 3; have r1 : (w2.setCell ⟨w.heap.size + 1 + 1, 3, none⟩ (.int .u64 (n4 : Int))).cell? ⟨w.heap.size + 1, 1, none⟩ = some (.int .i64 e4) := ((V2.out).blk.other (p := ⟨w.heap.size + 1 + 1, 3, none⟩) (by show w.heap.size + 1 ≠ w.heap.size + 1 + 1; omega) _).cell 1 rfl; have r2 : (w2.setCell ⟨w.heap.size + 1 + 1, 3, none⟩ (.int .u64 (n4 : Int))).cell? ⟨w.heap.size + 1 + 1, 3, none⟩ = some (.int .u64 (n4 : Int)) := ((N2.out).set 3 _).cell 3 rfl; have FW := Lib.hid (show Fr0 w (w2.setCell ⟨w.heap.size + 1 + 1, 3, none⟩ (.int .u64 (n4 : Int))) from Fr.setCell (p := ⟨w.heap.size + 1 + 1, 3, none⟩) F2.out (.inr (by show w.heap.size ≤ w.heap.size + 1 + 1; omega)) _); have ZW := Lib.hid ((Z2.out).other (p := ⟨w.heap.size + 1 + 1, 3, none⟩) (by show w.heap.size ≠ w.heap.size + 1 + 1; omega) (.int .u64 (n4 : Int))); clear hf2 hv2)
          go_roundw
          case measure => simp [intOf]
          case rel =>
            refine ⟨4, by simp, FW.out, ZW.out, (.inr (.inr (.inr (.inr ⟨rfl, ?_, (N2.out).set 3 _, A2, c2, ?_⟩))))⟩
            · have o := OK.out; have h := HE.out; show _ ∧ _; first | exact h | exact ⟨o, h⟩ | exact ⟨o.1, o.2, h⟩ | exact ⟨o.1, o.2.1, o.2.2, h⟩
            · exact (V2.out).fr1 ((Fr1.refl (w.heap.size + 1 + 1) w2).set 3 _) (by omega) (by omega)
        · have b2 : decide (1099511627776 < (n4 : Int)) = true := by simp; omega
          have b3 : decide (1099511627776 < n4) = true := by simp; omega
          have HE := Lib.hid hM
          clear hE hM
          go_wp2_with (go_at_call 21; refine (fnum_any V.out (by omega)).mono ?_; rintro x w2 ⟨he', hf2, A2, c2, hv2⟩; rw [← H4.out] at he' hv2; simp only at he' hv2; subst he'; have V2 := Lib.hid hv2; have F2 := Lib.hid ((F.out).new hf2 (by omega)); have Z2 := Lib.hid ((Z.out).fr1 hf2 (by omega)); have N2 := Lib.hid ((N.out).fr1 hf2 (by omega)); have s0 : w2.cell? ⟨w.heap.size + 1 + 1, 3, none⟩ = some (.int .u64 0) := (N2.out).cell 3 rfl; have s1 : w2.frozen? ⟨w.heap.size + 1 + 1, 3, none⟩ = false := (N2.out).free 3; have r1 : (w2.setCell ⟨w.heap.size + 1 + 1, 3, none⟩ (.int .u64 (n4 : Int))).cell? ⟨w.heap.size + 1, 1, none⟩ = some (.int .i64 e4) := ((V2.out).blk.other (p := ⟨w.heap.size + 1 + 1, 3, none⟩) (by show w.heap.size + 1 ≠ w.heap.size + 1 + 1; omega) _).cell 1 rfl; have r2 : (w2.setCell ⟨w.heap.size + 1 + 1, 3, none⟩ (.int .u64 (n4 : Int))).cell? ⟨w.heap.size + 1 + 1, 3, none⟩ = some (.int .u64 (n4 : Int)) := ((N2.out).set 3 _).cell 3 rfl; have FW := Lib.hid (show Fr0 w (w2.setCell ⟨w.heap.size + 1 + 1, 3, none⟩ (.int .u64 (n4 : Int))) from Fr.setCell (p := ⟨w.heap.size + 1 + 1, 3, none⟩) F2.out (.inr (by show w.heap.size ≤ w.heap.size + 1 + 1; omega)) _); have ZW := Lib.hid ((Z2.out).other (p := ⟨w.heap.size + 1 + 1, 3, none⟩) (by show w.heap.size ≠ w.heap.size + 1 + 1; omega) (.int .u64 (n4 : Int))); have z0 : (w2.setCell ⟨w.heap.size + 1 + 1, 3, none⟩ (.int .u64 (n4 : Int))).cell? ⟨w.heap.size, 0, none⟩ = some (.int .i64 0) := (ZW.out).cell 0 rfl; have g0 : (w2.setCell ⟨w.heap.size + 1 + 1, 3, none⟩ (.int .u64 (n4 : Int))).frozen? ⟨w.heap.size, 0, none⟩ = false := (ZW.out).free 0; have z1 : (w2.setCell ⟨w.heap.size + 1 + 1, 3, none⟩ (.int .u64 (n4 : Int))).cell? ⟨w.heap.size, 1, none⟩ = some (.int .i64 0) := (ZW.out).cell 1 rfl; have g1 : (w2.setCell ⟨w.heap.size + 1 + 1, 3, none⟩ (.int .u64 (n4 : Int))).frozen? ⟨w.heap.size, 1, none⟩ = false := (ZW.out).free 1; have z2 : (w2.setCell ⟨w.heap.size + 1 + 1, 3, none⟩ (.int .u64 (n4 : Int))).cell? ⟨w.heap.size, 2, none⟩ = some (.int .i64 0) := (ZW.out).cell 2 rfl; have g2 : (w2.setCell ⟨w.heap.size + 1 + 1, 3, none⟩ (.int .u64 (n4 : Int))).frozen? ⟨w.heap.size, 2, none⟩ = false := (ZW.out).free 2; have z3 : (w2.setCell ⟨w.heap.size + 1 + 1, 3, none⟩ (.int .u64 (n4 : Int))).cell? ⟨w.heap.size, 3, none⟩ = some (.int .i64 0) := (ZW.out).cell 3 rfl; have g3 : (w2.setCell ⟨w.heap.size + 1 + 1, 3, none⟩ (.int .u64 (n4 : Int))).frozen? ⟨w.heap.size, 3, none⟩ = false := (ZW.out).free 3; have z4 : (w2.setCell ⟨w.heap.size + 1 + 1, 3, none⟩ (.int .u64 (n4 : Int))).cell? ⟨w.heap.size, 4, none⟩ = some (.slice none 0 0) := (ZW.out).cell 4 rfl; have g4 : (w2.setCell ⟨w.heap.size + 1 + 1, 3, none⟩ (.int .u64 (n4 : Int))).frozen? ⟨w.heap.size, 4, none⟩ = false := (ZW.out).free 4; clear hf2 hv2)
          refine bodyPost_ret (v := .tuple #[.agg #[.int .i64 0, .int .i64 0, .int .i64 0, .int .i64 0, .slice none 0 0], .int .i64 4]) (iret2 (blk_set5 ZW.out _ _ _ _ _) rfl rfl rfl) rfl ⟨fr_set5 FW.out (Nat.le_refl _) _ _ _ _ _, .inl ⟨fun h => ?_, rfl⟩⟩
          have h2 := (HG.out).1 h; have := HE.out; omega
      · have b1 : (e4 != 0) = true := by simpa using hE
        have HE := Lib.hid hE
        clear hE
        go_wp2_with (go_at_call 21; refine (fnum_any V.out (by omega)).mono ?_; rintro x w2 ⟨he', hf2, A2, c2, hv2⟩; rw [← H4.out] at he' hv2; simp only at he' hv2; subst he'; have V2 := Lib.hid hv2; have F2 := Lib.hid ((F.out).new hf2 (by omega)); have Z2 := Lib.hid ((Z.out).fr1 hf2 (by omega)); have N2 := Lib.hid ((N.out).fr1 hf2 (by omega)); have s0 : w2.cell? ⟨w.heap.size + 1 + 1, 3, none⟩ = some (.int .u64 0) := (N2.out).cell 3 rfl; have s1 : w2.frozen? ⟨w.heap.size + 1 + 1, 3, none⟩ = false := (N2.out).free 3; have r1 : (w2.setCell ⟨w.heap.size + 1 + 1, 3, none⟩ (.int .u64 (n4 : Int))).cell? ⟨w.heap.size + 1, 1, none⟩ = some (.int .i64 e4) := ((V2.out).blk.other (p := ⟨w.heap.size + 1 + 1, 3, none⟩) (by show w.heap.size + 1 ≠ w.heap.size + 1 + 1; omega) _).cell 1 rfl; have r2 : (w2.setCell ⟨w.heap.size + 1 + 1, 3, none⟩ (.int .u64 (n4 : Int))).cell? ⟨w.heap.size + 1 + 1, 3, none⟩ = some (.int .u64 (n4 : Int)) := ((N2.out).set 3 _).cell 3 rfl; have FW := Lib.hid (show Fr0 w (w2.setCell ⟨w.heap.size + 1 + 1, 3, none⟩ (.int .u64 (n4 : Int))) from Fr.setCell (p := ⟨w.heap.size + 1 + 1, 3, none⟩) F2.out (.inr (by show w.heap.size ≤ w.heap.size + 1 + 1; omega)) _); have ZW := Lib.hid ((Z2.out).other (p := ⟨w.heap.size + 1 + 1, 3, none⟩) (by show w.heap.size ≠ w.heap.size + 1 + 1; omega) (.int .u64 (n4 : Int))); have z0 : (w2.setCell ⟨w.heap.size + 1 + 1, 3, none⟩ (.int .u64 (n4 : Int))).cell? ⟨w.heap.size, 0, none⟩ = some (.int .i64 0) := (ZW.out).cell 0 rfl; have g0 : (w2.setCell ⟨w.heap.size + 1 + 1, 3, none⟩ (.int .u64 (n4 : Int))).frozen? ⟨w.heap.size, 0, none⟩ = false := (ZW.out).free 0; have z1 : (w2.setCell ⟨w.heap.size + 1 + 1, 3, none⟩ (.int .u64 (n4 : Int))).cell? ⟨w.heap.size, 1, none⟩ = some (.int .i64 0) := (ZW.out).cell 1 rfl; have g1 : (w2.setCell ⟨w.heap.size + 1 + 1, 3, none⟩ (.int .u64 (n4 : Int))).frozen? ⟨w.heap.size, 1, none⟩ = false := (ZW.out).free 1; have z2 : (w2.setCell ⟨w.heap.size + 1 + 1, 3, none⟩ (.int .u64 (n4 : Int))).cell? ⟨w.heap.size, 2, none⟩ = some (.int .i64 0) := (ZW.out).cell 2 rfl; have g2 : (w2.setCell ⟨w.heap.size + 1 + 1, 3, none⟩ (.int .u64 (n4 : Int))).frozen? ⟨w.heap.size, 2, none⟩ = false := (ZW.out).free 2; have z3 : (w2.setCell ⟨w.heap.size + 1 + 1, 3, none⟩ (.int .u64 (n4 : Int))).cell? ⟨w.heap.size, 3, none⟩ = some (.int .i64 0) := (ZW.out).cell 3 rfl; have g3 : (w2.setCell ⟨w.heap.size + 1 + 1, 3, none⟩ (.int .u64 (n4 : Int))).frozen? ⟨w.heap.size, 3, none⟩ = false := (ZW.out).free 3; have z4 : (w2.setCell ⟨w.heap.size + 1 + 1, 3, none⟩ (.int .u64 (n4 : Int))).cell? ⟨w.heap.size, 4, none⟩ = some (.slice none 0 0) := (ZW.out).cell 4 rfl; have g4 : (w2.setCell ⟨w.heap.size + 1 + 1, 3, none⟩ (.int .u64 (n4 : Int))).frozen? ⟨w.heap.size, 4, none⟩ = false := (ZW.out).free 4; clear hf2 hv2)
        refine bodyPost_ret (v := .tuple #[.agg #[.int .i64 0, .int .i64 0, .int .i64 0, .int .i64 0, .slice none 0 0], .int .i64 4]) (iret2 (blk_set5 ZW.out _ _ _ _ _) rfl rfl rfl) rfl ⟨fr_set5 FW.out (Nat.le_refl _) _ _ _ _ _, .inl ⟨fun h => ?_, rfl⟩⟩
        have h2 := (HG.out).1 h; have := HE.out; omega
    · have F := Lib.hid hf
      have Z := Lib.hid hz
      have V := Lib.hid hv
      have OK := Lib.hid hok.out
      have z0 : wr.cell? ⟨w.heap.size, 0, none⟩ = some (.int .i64 0) := hz.cell 0 rfl
      have g0 : wr.frozen? ⟨w.heap.size, 0, none⟩ = false := hz.free 0
      have z1 : wr.cell? ⟨w.heap.size, 1, none⟩ = some (.int .i64 0) := hz.cell 1 rfl
      have g1 : wr.frozen? ⟨w.heap.size, 1, none⟩ = false := hz.free 1
      have z2 : wr.cell? ⟨w.heap.size, 2, none⟩ = some (.int .i64 0) := hz.cell 2 rfl
      have g2 : wr.frozen? ⟨w.heap.size, 2, none⟩ = false := hz.free 2
      have z3 : wr.cell? ⟨w.heap.size, 3, none⟩ = some (.int .i64 0) := hz.cell 3 rfl
      have g3 : wr.frozen? ⟨w.heap.size, 3, none⟩ = false := hz.free 3
      have z4 : wr.cell? ⟨w.heap.size, 4, none⟩ = some (.slice none 0 0) := hz.cell 4 rfl
      have g4 : wr.frozen? ⟨w.heap.size, 4, none⟩ = false := hz.free 4
      have a0 : wr.cell? ⟨w.heap.size + 1 + 1, 0, none⟩ = some (.int .u64 (n1 : Int)) := ha.cell 0 rfl
      have a1 : wr.cell? ⟨w.heap.size + 1 + 1, 1, none⟩ = some (.int .u64 (n2 : Int)) := ha.cell 1 rfl
      have a2 : wr.cell? ⟨w.heap.size + 1 + 1, 2, none⟩ = some (.int .u64 (n3 : Int)) := ha.cell 2 rfl
      have a3 : wr.cell? ⟨w.heap.size + 1 + 1, 3, none⟩ = some (.int .u64 (n4 : Int)) := ha.cell 3 rfl
      have N := Lib.hid ha
      clear hf hz ha hv hok
      by_cases hle : n4 ≤ n1
      · have b1 : decide ((n1 : Int) < (n4 : Int)) = false := by simp; omega
        have b2 : decide (n1 < n4) = false := by simp; omega
        have LE := Lib.hid hle
        clear hle
        have y1 : IntKind.u64.wrap ((n1 : Int) + (n2 : Int)) = (n1 : Int) + (n2 : Int) := by have := OK.out; show ((n1 : Int) + (n2 : Int)) % 18446744073709551616 = _; omega
        have y2 : IntKind.u64.wrap ((n1 : Int) - (n4 : Int)) = (n1 : Int) - (n4 : Int) := by have := OK.out; have := LE.out; show ((n1 : Int) - (n4 : Int)) % 18446744073709551616 = _; omega
        have y3 : IntKind.i64.wrap (n1 : Int) = (n1 : Int) := by have := OK.out; exact IntWalk.i64_in _ (by omega)
        have y4 : IntKind.i64.wrap ((n1 : Int) + (n2 : Int)) = (n1 : Int) + (n2 : Int) := by have := OK.out; exact IntWalk.i64_in _ (by omega)
        have y5 : IntKind.i64.wrap (n3 : Int) = (n3 : Int) := by have := OK.out; exact IntWalk.i64_in _ (by omega)
        have y6 : IntKind.i64.wrap ((n1 : Int) - (n4 : Int)) = (n1 : Int) - (n4 : Int) := by have := OK.out; exact IntWalk.i64_in _ (by omega)
        go_wp2_with fail
        have V0 := V
        have N0 := N
        have Z0 := Z
        have F0 := F
        replace N := Lib.hid ((N.out).drew)
        replace V := Lib.hid ((V.out).fr0 ((Fr0.refl wr).drew))
        replace F := Lib.hid ((F.out).drew)
        replace Z := Lib.hid ((Z.out).drew)
        clear a0 a1 a2 a3 z0 z1 z2 z3 z4 g0 g1 g2 g3 g4
        have P2 := Lib.hid (show w.heap.size + 1 + 1 < wr.heap.size from (N.out).lt)
        go_cut [7] (fun s7 wx => ∃ (g : Nat) (A5 : Option Addr) (c5 : Nat), s7 = .pointer (some ⟨g, 0, none⟩) ∧ w.heap.size < g ∧ Fr0 w wx ∧ Blk wx w.heap.size #[.int .i64 0, .int .i64 0, .int .i64 0, .int .i64 0, .slice none 0 0] 25 ∧ Blk wx g #[.int .i64 (n1 : Int), .int .i64 ((n1 : Int) + (n2 : Int)), .int .i64 (n3 : Int), .int .i64 ((n1 : Int) - (n4 : Int)), .slice A5 rs.length c5] 25 ∧ RdB wx (.slice A5 rs.length c5) rs ∧ (0 < rs.length → ∀ k, Value.blk (.slice A5 rs.length c5) = some k → k < w.heap.size))
        case first =>
          have NS := Lib.hid (fun (w' : World) (h : Blk w' (w.heap.size + 1 + 1) #[.int .u64 (n1 : Int), .int .u64 (n2 : Int), .int .u64 (n3 : Int), .int .u64 (n4 : Int)] 46) => show w'.cell? ⟨w.heap.size + 1 + 1, 0, none⟩ = some (.int .u64 (n1 : Int)) ∧ w'.cell? ⟨w.heap.size + 1 + 1, 1, none⟩ = some (.int .u64 (n2 : Int)) ∧ w'.cell? ⟨w.heap.size + 1 + 1, 2, none⟩ = some (.int .u64 (n3 : Int)) ∧ w'.cell? ⟨w.heap.size + 1 + 1, 3, none⟩ = some (.int .u64 (n4 : Int)) from ⟨h.cell 0 rfl, h.cell 1 rfl, h.cell 2 rfl, h.cell 3 rfl⟩)
          have NE := Lib.hid (show w.heap.size + 1 + 1 ≠ wr.heap.size from Nat.ne_of_lt P2.out)
          have NA := Lib.hid (((N0.out).alloc (.cells #[.int .i64 0, .int .i64 0, .int .i64 0, .int .i64 0, .slice none 0 0] 25)).drew)
          go_region_held_law (fun w' => w'.cell? ⟨w.heap.size + 1 + 1, 0, none⟩ = some (.int .u64 (n1 : Int)) ∧ w'.cell? ⟨w.heap.size + 1 + 1, 1, none⟩ = some (.int .u64 (n2 : Int)) ∧ w'.cell? ⟨w.heap.size + 1 + 1, 2, none⟩ = some (.int .u64 (n3 : Int)) ∧ w'.cell? ⟨w.heap.size + 1 + 1, 3, none⟩ = some (.int .u64 (n4 : Int))) (first | with_reducible exact NS.out _ N.out | with_reducible exact NS.out _ NA.out | with_reducible exact NS.out _ (blk_other5 (N.out) (NE.out) _ _ _ _ _) | with_reducible exact NS.out _ ((N.out).alloc _)) (first
            | (go_at_call 22; (with_reducible refine (frest_any2 V.out).mono ?_); rintro x w5 ⟨A5, c5, rfl, hr5, hf5, hl5⟩; rw [← H5.out] at hr5 hl5; simp only at hr5 hl5; rw [← H5.out]; replace N := Lib.hid ((N.out).fr1 hf5 (by omega)); replace Z := Lib.hid ((Z.out).fr1 hf5 (by omega)); replace F := Lib.hid ((F.out).new hf5 (by omega)); have RS := Lib.hid hr5; have LS := Lib.hid hl5; have W5 := Lib.hid hf5; clear hf5 hr5 hl5)
            | (go_at_call 22; (with_reducible refine (frest_any2 ((V0.out).fr0 (((Fr0.refl wr).alloc (.cells #[.int .i64 0, .int .i64 0, .int .i64 0, .int .i64 0, .slice none 0 0] 25)).drew))).mono ?_); rintro x w5 ⟨A5, c5, rfl, hr5, hf5, hl5⟩; rw [← H5.out] at hr5 hl5; simp only at hr5 hl5; rw [← H5.out]; have X := Lib.hid (Blk.fr1 (Blk.drew (Blk.new wr #[.int .i64 0, .int .i64 0, .int .i64 0, .int .i64 0, .slice none 0 0] 25)) hf5 (show wr.heap.size ≠ w.heap.size + 1 by have := P2.out; omega)); have x0 : w5.cell? ⟨wr.heap.size, 0, none⟩ = some (.int .i64 0) := (X.out).cell 0 rfl; have f0 : w5.frozen? ⟨wr.heap.size, 0, none⟩ = false := (X.out).free 0; have x1 : w5.cell? ⟨wr.heap.size, 1, none⟩ = some (.int .i64 0) := (X.out).cell 1 rfl; have f1 : w5.frozen? ⟨wr.heap.size, 1, none⟩ = false := (X.out).free 1; have x2 : w5.cell? ⟨wr.heap.size, 2, none⟩ = some (.int .i64 0) := (X.out).cell 2 rfl; have f2 : w5.frozen? ⟨wr.heap.size, 2, none⟩ = false := (X.out).free 2; have x3 : w5.cell? ⟨wr.heap.size, 3, none⟩ = some (.int .i64 0) := (X.out).cell 3 rfl; have f3 : w5.frozen? ⟨wr.heap.size, 3, none⟩ = false := (X.out).free 3; have x4 : w5.cell? ⟨wr.heap.size, 4, none⟩ = some (.slice none 0 0) := (X.out).cell 4 rfl; have f4 : w5.frozen? ⟨wr.heap.size, 4, none⟩ = false := (X.out).free 4; replace N := Lib.hid ((((N0.out).alloc _).drew).fr1 hf5 (by omega)); replace Z := Lib.hid ((((Z0.out).alloc _).drew).fr1 hf5 (by omega)); replace F := Lib.hid ((((F0.out).alloc _).drew).new hf5 (by omega)); have RS := Lib.hid hr5; have LS := Lib.hid hl5; clear hf5 hr5 hl5))
          all_goals (go_wp2_with fail; go_meet)
          all_goals have p2 := P2.out
          · refine ⟨w5.heap.size, A5, c5, rfl, ?_, (F.out).alloc _, (Z.out).alloc _, Blk.new w5 _ _, (RS.out).fr0 ((Fr0.refl w5).alloc _), LS.out⟩
            have := (W5.out).size; have h3 : wr.drew.heap.size = wr.heap.size := rfl; omega
          · refine ⟨wr.heap.size, A5, c5, rfl, by omega, fr_set5 F.out (by omega) _ _ _ _ _, blk_other5 Z.out (by omega) _ _ _ _ _, blk_set5 X.out _ _ _ _ _, RdB.fr1 (RS.out) (fr_set5' (Fr1.refl wr.heap.size w5) _ _ _ _ _) (fun h0 hp => ?_), LS.out⟩
            have := LS.out h0 _ hp; omega
        case rest =>
          obtain ⟨g, A5, c5, rfl, hg, hf, hz, hx, hr, hl⟩ := hcut
          clear N V F Z
          have F := Lib.hid hf
          have Z := Lib.hid hz
          have X := Lib.hid hx
          have R := Lib.hid hr
          have L := Lib.hid hl
          clear hf hz hx hr hl
          have x0 : wc.cell? ⟨g, 0, none⟩ = some (.int .i64 (n1 : Int)) := (X.out).cell 0 rfl
          have x1 : wc.cell? ⟨g, 1, none⟩ = some (.int .i64 ((n1 : Int) + (n2 : Int))) := (X.out).cell 1 rfl
          have x2 : wc.cell? ⟨g, 2, none⟩ = some (.int .i64 (n3 : Int)) := (X.out).cell 2 rfl
          have x3 : wc.cell? ⟨g, 3, none⟩ = some (.int .i64 ((n1 : Int) - (n4 : Int))) := (X.out).cell 3 rfl
          have x4 : wc.cell? ⟨g, 4, none⟩ = some (.slice A5 rs.length c5) := (X.out).cell 4 rfl
          have HMay := Lib.hid (fun (A : Option Addr) (c : Nat) (w' : World) => rmay_any (n1 : Int) ((n1 : Int) + (n2 : Int)) (n3 : Int) ((n1 : Int) - (n4 : Int)) A rs.length c w')
          obtain ⟨my, hmy⟩ : ∃ my, my = may (n1 : Int) ((n1 : Int) + (n2 : Int)) (n3 : Int) ((n1 : Int) - (n4 : Int)) rs.length := ⟨_, rfl⟩
          rw [← hmy] at HMay
          have HMY := Lib.hid hmy
          clear hmy
          by_cases t4 : my = 0
          · have b4 : (my != 0) = false := by simpa using t4
            have N4 := Lib.hid t4
            clear t4
            go_wp2_with ((go_at_call 13; refine (HMay.out _ _ _).mono ?_; rintro x w8 ⟨rfl, hf⟩; replace Z := Lib.hid ((Z.out).fr0 hf); replace X := Lib.hid ((X.out).fr0 hf); replace F := Lib.hid ((F.out).trans hf); replace R := Lib.hid (RdB.fr0 (R.out) hf); clear hf; have xx0 : w8.cell? ⟨g, 0, none⟩ = some (.int .i64 (n1 : Int)) := (X.out).cell 0 rfl; have xx1 : w8.cell? ⟨g, 1, none⟩ = some (.int .i64 ((n1 : Int) + (n2 : Int))) := (X.out).cell 1 rfl; have xx2 : w8.cell? ⟨g, 2, none⟩ = some (.int .i64 (n3 : Int)) := (X.out).cell 2 rfl; have xx3 : w8.cell? ⟨g, 3, none⟩ = some (.int .i64 ((n1 : Int) - (n4 : Int))) := (X.out).cell 3 rfl; have xx4 : w8.cell? ⟨g, 4, none⟩ = some (.slice A5 rs.length c5) := (X.out).cell 4 rfl; have zz0 : w8.cell? ⟨w.heap.size, 0, none⟩ = some (.int .i64 0) := (Z.out).cell 0 rfl; have zz1 : w8.cell? ⟨w.heap.size, 1, none⟩ = some (.int .i64 0) := (Z.out).cell 1 rfl; have zz2 : w8.cell? ⟨w.heap.size, 2, none⟩ = some (.int .i64 0) := (Z.out).cell 2 rfl; have zz3 : w8.cell? ⟨w.heap.size, 3, none⟩ = some (.int .i64 0) := (Z.out).cell 3 rfl; have zz4 : w8.cell? ⟨w.heap.size, 4, none⟩ = some (.slice none 0 0) := (Z.out).cell 4 rfl; have gg0 : w8.frozen? ⟨w.heap.size, 0, none⟩ = false := (Z.out).free 0; have gg1 : w8.frozen? ⟨w.heap.size, 1, none⟩ = false := (Z.out).free 1; have gg2 : w8.frozen? ⟨w.heap.size, 2, none⟩ = false := (Z.out).free 2; have gg3 : w8.frozen? ⟨w.heap.size, 3, none⟩ = false := (Z.out).free 3; have gg4 : w8.frozen? ⟨w.heap.size, 4, none⟩ = false := (Z.out).free 4; skip))
            have hN : iNums b = ((n1, n2, n3, n4), rs, e4) := by
              unfold iNums; simp only; rw [← H1.out]; simp only; rw [← H2.out]; simp only; rw [← H3.out]; simp only; rw [← H4.out]; simp only; rw [← H5.out]
            have o := OK.out
            have le := LE.out
            have GD : iGood b := by
              refine (HG.out).2 ⟨o.1, o.2.1, o.2.2.1, o.2.2.2, le, ?_⟩
              rw [Int.natCast_add, Int.natCast_sub le]
              exact (HMY.out).symm.trans N4.out
            refine bodyPost_ret (v := .tuple #[.agg #[.int .i64 (n1 : Int), .int .i64 ((n1 : Int) + (n2 : Int)), .int .i64 (n3 : Int), .int .i64 ((n1 : Int) - (n4 : Int)), .slice A5 rs.length c5], .int .i64 0]) (iret2 (blk_set5 Z.out _ _ _ _ _) rfl rfl rfl) rfl ⟨fr_set5 F.out (Nat.le_refl _) _ _ _ _ _, .inr ⟨GD, A5, c5, ?_, ?_⟩⟩
            · rw [hN]; simp only; rw [numI_of o.1.2, numI_of o.2.1.2, numI_of o.2.2.1.2, numI_of o.2.2.2.2]
            · rw [hN]
              have hfs := fr_set5' (Fr1.refl w.heap.size w8) (.int .i64 (n1 : Int)) (.int .i64 ((n1 : Int) + (n2 : Int))) (.int .i64 (n3 : Int)) (.int .i64 ((n1 : Int) - (n4 : Int))) (.slice A5 rs.length c5)
              exact RdB.fr1 (R.out) hfs (fun h0 hp => by have := L.out h0 _ hp; omega)
          · have b4 : (my != 0) = true := by simpa using t4
            have N4 := Lib.hid t4
            clear t4
            go_wp2_with ((go_at_call 13; refine (HMay.out _ _ _).mono ?_; rintro x w8 ⟨rfl, hf⟩; replace Z := Lib.hid ((Z.out).fr0 hf); replace X := Lib.hid ((X.out).fr0 hf); replace F := Lib.hid ((F.out).trans hf); replace R := Lib.hid (RdB.fr0 (R.out) hf); clear hf; have xx0 : w8.cell? ⟨g, 0, none⟩ = some (.int .i64 (n1 : Int)) := (X.out).cell 0 rfl; have xx1 : w8.cell? ⟨g, 1, none⟩ = some (.int .i64 ((n1 : Int) + (n2 : Int))) := (X.out).cell 1 rfl; have xx2 : w8.cell? ⟨g, 2, none⟩ = some (.int .i64 (n3 : Int)) := (X.out).cell 2 rfl; have xx3 : w8.cell? ⟨g, 3, none⟩ = some (.int .i64 ((n1 : Int) - (n4 : Int))) := (X.out).cell 3 rfl; have xx4 : w8.cell? ⟨g, 4, none⟩ = some (.slice A5 rs.length c5) := (X.out).cell 4 rfl; have zz0 : w8.cell? ⟨w.heap.size, 0, none⟩ = some (.int .i64 0) := (Z.out).cell 0 rfl; have zz1 : w8.cell? ⟨w.heap.size, 1, none⟩ = some (.int .i64 0) := (Z.out).cell 1 rfl; have zz2 : w8.cell? ⟨w.heap.size, 2, none⟩ = some (.int .i64 0) := (Z.out).cell 2 rfl; have zz3 : w8.cell? ⟨w.heap.size, 3, none⟩ = some (.int .i64 0) := (Z.out).cell 3 rfl; have zz4 : w8.cell? ⟨w.heap.size, 4, none⟩ = some (.slice none 0 0) := (Z.out).cell 4 rfl; have gg0 : w8.frozen? ⟨w.heap.size, 0, none⟩ = false := (Z.out).free 0; have gg1 : w8.frozen? ⟨w.heap.size, 1, none⟩ = false := (Z.out).free 1; have gg2 : w8.frozen? ⟨w.heap.size, 2, none⟩ = false := (Z.out).free 2; have gg3 : w8.frozen? ⟨w.heap.size, 3, none⟩ = false := (Z.out).free 3; have gg4 : w8.frozen? ⟨w.heap.size, 4, none⟩ = false := (Z.out).free 4; skip))
            refine bodyPost_ret (v := .tuple #[.agg #[.int .i64 0, .int .i64 0, .int .i64 0, .int .i64 0, .slice none 0 0], .int .i64 4]) (iret2 (blk_set5 Z.out _ _ _ _ _) rfl rfl rfl) rfl ⟨fr_set5 F.out (Nat.le_refl _) _ _ _ _ _, .inl ⟨fun h => ?_, rfl⟩⟩
            have h2 := (HG.out).1 h
            obtain ⟨-, -, -, -, le, hm⟩ := h2
            rw [Int.natCast_add, Int.natCast_sub le] at hm
            exact N4.out ((HMY.out).trans hm)
      · have b1 : decide ((n1 : Int) < (n4 : Int)) = true := by simp; omega
        have b2 : decide (n1 < n4) = true := by simp; omega
        have LE := Lib.hid hle
        clear hle
        go_wp2_with fail
        refine bodyPost_ret (v := .tuple #[.agg #[.int .i64 0, .int .i64 0, .int .i64 0, .int .i64 0, .slice none 0 0], .int .i64 4]) (iret2 (blk_set5 Z.out _ _ _ _ _) rfl rfl rfl) rfl ⟨fr_set5 F.out (Nat.le_refl _) _ _ _ _ _, .inl ⟨fun h => ?_, rfl⟩⟩
        have h2 := (HG.out).1 h; have := LE.out; omega
end Go.Proofs.Ytkgjmfmnkcfabaa
