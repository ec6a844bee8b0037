/- A block's spread. Conditions stand in the statements. -/
import Derived.Test.YtgcjbbliaelkcaaShaStarts
import Derived.Test.YtgcjbbliaelkcaaBytes
import Derived.BigRegion
import Derived.Deep.RegionHeldLaw
import Derived.Deep.DeepCutAuto
namespace Go.Proofs.Ytgcjbbliaelkcaa
open Go.RowKit

theorem rdb_bAt {g off c : Nat} {d : List UInt8} {W : World} (h : RdB W (.slice (some ⟨g, off, none⟩) d.length c) d) {i : Nat} (hi : i < d.length) : W.cell? ⟨g, off + i, none⟩ = some (.int .u8 (bAt d i : Nat)) := by
  obtain ⟨g', o', c', hv, -, -, hc⟩ := h.cell hi
  injection hv with hA
  injection hA with hA
  injection hA with hA hO
  subst hA hO
  rw [show bAt d i = d[i].toNat from by unfold bAt; rw [show d.getD i 0 = d[i] from by simp [List.getD, hi]]]
  exact hc
theorem Fr0.setNew {w w1 : World} (h : Fr0 w w1) (j k : Nat) (u : Value) : Fr0 w (w1.setCell ⟨w.heap.size + j, k, none⟩ u) := Fr.setCell (p := ⟨w.heap.size + j, k, none⟩) h (.inr (Nat.le_add_right _ _)) u
theorem or4 {b0 b1 b2 b3 : Nat} (x0 : b0 < 256) (x1 : b1 < 256) (x2 : b2 < 256) (x3 : b3 < 256) :
    bits .or .u32 (bits .or .u32 (bits .or .u32 ((b0 * 16777216 : Nat) : Int) ((b1 * 65536 : Nat) : Int)) ((b2 * 256 : Nat) : Int)) (b3 : Int) = ((b0 * 16777216 + b1 * 65536 + b2 * 256 + b3 : Nat) : Int) := by
  have h1 := Nat.two_pow_add_eq_or_of_lt (i := 24) (b := b1 * 65536) (by omega) b0
  have h2 := Nat.two_pow_add_eq_or_of_lt (i := 16) (b := b2 * 256) (by omega) (b0 * 256 + b1)
  have h3 := Nat.two_pow_add_eq_or_of_lt (i := 8) (b := b3) (by omega) (b0 * 65536 + b1 * 256 + b2)
  have r1 := u32_or_nat (b0 * 16777216) (b1 * 65536) (by omega) (by omega)
  rw [r1, show b0 * 16777216 ||| b1 * 65536 = b0 * 16777216 + b1 * 65536 from by rw [show b0 * 16777216 = 2 ^ 24 * b0 by omega, ← h1]]
  have r2 := u32_or_nat (b0 * 16777216 + b1 * 65536) (b2 * 256) (by omega) (by omega)
  rw [r2, show (b0 * 16777216 + b1 * 65536) ||| b2 * 256 = b0 * 16777216 + b1 * 65536 + b2 * 256 from by rw [show b0 * 16777216 + b1 * 65536 = 2 ^ 16 * (b0 * 256 + b1) by omega, ← h2]]
  have r3 := u32_or_nat (b0 * 16777216 + b1 * 65536 + b2 * 256) b3 (by omega) (by omega)
  rw [r3, show (b0 * 16777216 + b1 * 65536 + b2 * 256) ||| b3 = b0 * 16777216 + b1 * 65536 + b2 * 256 + b3 from by rw [show b0 * 16777216 + b1 * 65536 + b2 * 256 = 2 ^ 8 * (b0 * 65536 + b1 * 256 + b2) by omega, ← h3]]
set_option maxHeartbeats 4000000 in
set_option maxRecDepth 10000 in
theorem spread_any {g off c : Nat} {d : List UInt8} {w : World} (h : RdB w (.slice (some ⟨g, off, none⟩) 64 c) d) (hd : d.length = 64) : Calls Try.prog 69 #[.slice (some ⟨g, off, none⟩) 64 c] w fun e w' => e = .returned (.agg (wA 64 (spW d 64))) ∧ Fr0 w w' := by
  have HD := Lib.hid hd
  have h' : RdB w (.slice (some ⟨g, off, none⟩) d.length c) d := by rw [hd]; exact h
  have HR := Lib.hid h'
  clear h h'
  go_enter Try.func69, Try.ntmps69
  go_wp2_with fail
  go_loopw [6] (fun v6 wr => ∃ k : Nat, k ≤ 64 ∧ v6 = .int .i64 k ∧ Fr0 w wr ∧ Blk wr (w.heap.size + 1) (wA 64 (spW d k)) 121 ∧ Blk wr w.heap.size (wA 64 []) 121) (fun v6 _ => 64 - (intOf v6).toNat)
  case atStart =>
    refine ⟨0, Nat.zero_le _, rfl, ((Fr0.refl _).alloc _).alloc _, ?_, ?_⟩
    · have h := Blk.new (w.alloc (.cells (wA 64 []) 121)) (wA 64 []) 121
      rw [show (w.alloc (.cells (wA 64 []) 121)).heap.size = w.heap.size + 1 from Array.size_push _] at h
      exact h
    · exact (Blk.new w (wA 64 []) 121).alloc _
  case round =>
    obtain ⟨k, hk, rfl, hf, hb, hz⟩ := hrel
    by_cases hlt : k < 64
    · have F2 := Lib.hid hf
      have B2 := Lib.hid hb
      have Z2 := Lib.hid hz
      have i0 : (0 : Int) ≤ (k : Int) := by omega
      have i1 : (k : Int) < 64 := by omega
      have g1 := hb.free k
      have L := Lib.hid (spW_len d k)
      clear hf hz
      by_cases h16 : k < 16
      · have q1 : decide ((k : Int) < 16) = true := by simp; omega
        have q2 : decide (k < 16) = true := by simpa using h16
        have R := Lib.hid ((HR.out).fr0 F2.out)
        have c1 := hb.cell k (wA_at hlt)
        clear hb
        have j0 : (0 : Int) ≤ 4 * (k : Int) := by omega
        have j1 : 4 * (k : Int) < 64 := by omega
        have j2 : (0 : Int) ≤ 4 * (k : Int) + 1 := by omega
        have j3 : 4 * (k : Int) + 1 < 64 := by omega
        have j4 : (0 : Int) ≤ 4 * (k : Int) + 2 := by omega
        have j5 : 4 * (k : Int) + 2 < 64 := by omega
        have j6 : (0 : Int) ≤ 4 * (k : Int) + 3 := by omega
        have j7 : 4 * (k : Int) + 3 < 64 := by omega
        have e1 : IntKind.i64.wrap (4 * (k : Int)) = 4 * (k : Int) := IntWalk.i64_in _ (by omega)
        have e2 : IntKind.i64.wrap (4 * (k : Int) + 1) = 4 * (k : Int) + 1 := IntWalk.i64_in _ (by omega)
        have e3 : IntKind.i64.wrap (4 * (k : Int) + 2) = 4 * (k : Int) + 2 := IntWalk.i64_in _ (by omega)
        have e4 : IntKind.i64.wrap (4 * (k : Int) + 3) = 4 * (k : Int) + 3 := IntWalk.i64_in _ (by omega)
        have n1 : (4 * (k : Int)).toNat = 4 * k := by omega
        have n2 : (4 * (k : Int) + 1).toNat = 4 * k + 1 := by omega
        have n3 : (4 * (k : Int) + 2).toNat = 4 * k + 2 := by omega
        have n4 : (4 * (k : Int) + 3).toNat = 4 * k + 3 := by omega
        have k0 := rdb_bAt R.out (i := 4 * k) (by rw [HD.out]; omega)
        have k1 := rdb_bAt R.out (i := 4 * k + 1) (by rw [HD.out]; omega)
        have k2 := rdb_bAt R.out (i := 4 * k + 2) (by rw [HD.out]; omega)
        have k3 := rdb_bAt R.out (i := 4 * k + 3) (by rw [HD.out]; omega)
        have x0 := bAt_lt d (4 * k)
        have x1 := bAt_lt d (4 * k + 1)
        have x2 := bAt_lt d (4 * k + 2)
        have x3 := bAt_lt d (4 * k + 3)
        have HW := Lib.hid (show word4 d k = bAt d (4 * k) * 16777216 + bAt d (4 * k + 1) * 65536 + bAt d (4 * k + 2) * 256 + bAt d (4 * k + 3) from rfl)
        obtain ⟨b0, hb0⟩ : ∃ x, x = bAt d (4 * k) := ⟨_, rfl⟩
        obtain ⟨b1, hb1⟩ : ∃ x, x = bAt d (4 * k + 1) := ⟨_, rfl⟩
        obtain ⟨b2, hb2⟩ : ∃ x, x = bAt d (4 * k + 2) := ⟨_, rfl⟩
        obtain ⟨b3, hb3⟩ : ∃ x, x = bAt d (4 * k + 3) := ⟨_, rfl⟩
        rw [← hb0] at k0 x0 HW
        rw [← hb1] at k1 x1 HW
        rw [← hb2] at k2 x2 HW
        rw [← hb3] at k3 x3 HW
        have NS := Lib.hid (fun (W : World) (hf : Fr0 w W) => (show W.cell? ⟨g, off + 4 * k, none⟩ = some (.int .u8 b0) ∧ W.cell? ⟨g, off + (4 * k + 1), none⟩ = some (.int .u8 b1) ∧ W.cell? ⟨g, off + (4 * k + 2), none⟩ = some (.int .u8 b2) ∧ W.cell? ⟨g, off + (4 * k + 3), none⟩ = some (.int .u8 b3) by
          rw [hb0, hb1, hb2, hb3]
          have R := (HR.out).fr0 hf
          exact ⟨rdb_bAt R (by rw [HD.out]; omega), rdb_bAt R (by rw [HD.out]; omega), rdb_bAt R (by rw [HD.out]; omega), rdb_bAt R (by rw [HD.out]; omega)⟩))
        clear hb0 hb1 hb2 hb3
        have w0 : IntKind.u32.wrap (b0 : Int) = b0 := by show (b0 : Int) % 4294967296 = _; omega
        have w1 : IntKind.u32.wrap (b1 : Int) = b1 := by show (b1 : Int) % 4294967296 = _; omega
        have w2 : IntKind.u32.wrap (b2 : Int) = b2 := by show (b2 : Int) % 4294967296 = _; omega
        have w3 : IntKind.u32.wrap (b3 : Int) = b3 := by show (b3 : Int) % 4294967296 = _; omega
        have w4 : IntKind.u32.wrap ((b0 : Int) * 16777216) = ((b0 * 16777216 : Nat) : Int) := by show ((b0 : Int) * 16777216) % 4294967296 = _; omega
        have w5 : IntKind.u32.wrap ((b1 : Int) * 65536) = ((b1 * 65536 : Nat) : Int) := by show ((b1 : Int) * 65536) % 4294967296 = _; omega
        have w6 : IntKind.u32.wrap ((b2 : Int) * 256) = ((b2 * 256 : Nat) : Int) := by show ((b2 : Int) * 256) % 4294967296 = _; omega
        have ho := or4 x0 x1 x2 x3
        rw [← HW.out, show ((b0 * 16777216 : Nat) : Int) = (b0 : Int) * 16777216 from by omega, show ((b1 * 65536 : Nat) : Int) = (b1 : Int) * 65536 from by omega, show ((b2 * 256 : Nat) : Int) = (b2 : Int) * 256 from by omega] at ho
        obtain ⟨z, hz4⟩ : ∃ z, z = word4 d k := ⟨_, rfl⟩
        rw [← hz4] at ho
        have HO := Lib.hid hz4
        have SN := Lib.hid (fun (u : Value) => Fr0.setNew F2.out 1 k u)
        clear hz4 HW
        go_wp2_with fail
        go_region_held_law (fun w' => w'.cell? ⟨g, off + 4 * k, none⟩ = some (.int .u8 b0) ∧ w'.cell? ⟨g, off + (4 * k + 1), none⟩ = some (.int .u8 b1) ∧ w'.cell? ⟨g, off + (4 * k + 2), none⟩ = some (.int .u8 b2) ∧ w'.cell? ⟨g, off + (4 * k + 3), none⟩ = some (.int .u8 b3)) (first | with_reducible exact NS.out _ F2.out | with_reducible exact NS.out _ (Fr0.drew F2.out) | with_reducible exact NS.out _ (SN.out _) | with_reducible exact NS.out _ (Fr0.drew (SN.out _))) (fail)
        go_wp2_with fail
        go_roundw
        case measure => simp [intOf]; omega
        case rel =>
          have hB := (B2.out).set k (.int .u32 (z : Int))
          have hp := wA_push (n := 64) (l := spW d k) (by rw [L.out]; exact hlt) z
          rw [L.out] at hp
          rw [hp] at hB
          have e : spW d (k + 1) = spW d k ++ [z] := by
            show spW d k ++ [nextW d (spW d k)] = _
            unfold nextW
            rw [L.out, if_pos h16, HO.out]
          rw [← e] at hB
          exact ⟨k + 1, by omega, by go_num, (SN.out _).drew, hB.drew, ((Z2.out).other (by show w.heap.size ≠ w.heap.size + 1; omega) _).drew⟩
      · have q1 : decide ((k : Int) < 16) = false := by simp; omega
        have q2 : decide (k < 16) = false := by simpa using h16
        have c1 := hb.cell k (wA_at hlt)
        have hbl := spW_lt d k
        clear hb
        have HNW := Lib.hid (show nextW d (spW d k) = ((spW d k).getD (k - 16) 0 + mixS ((spW d k).getD (k - 15) 0) 7 18 3 + (spW d k).getD (k - 7) 0 + mixS ((spW d k).getD (k - 2) 0) 17 19 10) % 4294967296 by unfold nextW; rw [L.out, if_neg h16])
        have wl : ∀ i, (spW d k).getD i 0 < 4294967296 := by
          intro i
          rcases Nat.lt_or_ge i (spW d k).length with h | h
          · rw [show (spW d k).getD i 0 = (spW d k)[i] from by simp [List.getD, h]]; exact hbl _ (List.getElem_mem h)
          · rw [show (spW d k).getD i 0 = 0 from by simp [List.getD, List.getElem?_eq_none h]]; decide
        have l0 := wl (k - 16)
        have l1 := wl (k - 15)
        have l2 := wl (k - 7)
        have l3 := wl (k - 2)
        clear hbl wl
        have NS := Lib.hid (fun (W : World) (h : Fr0 wr W) => show W.cell? ⟨w.heap.size + 1, k - 16, none⟩ = some (.int .u32 ((spW d k).getD (k - 16) 0 : Nat)) ∧ W.cell? ⟨w.heap.size + 1, k - 15, none⟩ = some (.int .u32 ((spW d k).getD (k - 15) 0 : Nat)) ∧ W.cell? ⟨w.heap.size + 1, k - 7, none⟩ = some (.int .u32 ((spW d k).getD (k - 7) 0 : Nat)) ∧ W.cell? ⟨w.heap.size + 1, k - 2, none⟩ = some (.int .u32 ((spW d k).getD (k - 2) 0 : Nat)) from by
          have B := (B2.out).fr0 h
          exact ⟨B.cell _ (wA_at (by omega)), B.cell _ (wA_at (by omega)), B.cell _ (wA_at (by omega)), B.cell _ (wA_at (by omega))⟩)
        have NT := Lib.hid (fun (W : World) (h : Fr0 wr W) (u : Value) => show (W.setCell ⟨w.heap.size + 1, k, none⟩ u).cell? ⟨w.heap.size + 1, k - 16, none⟩ = some (.int .u32 ((spW d k).getD (k - 16) 0 : Nat)) ∧ (W.setCell ⟨w.heap.size + 1, k, none⟩ u).cell? ⟨w.heap.size + 1, k - 15, none⟩ = some (.int .u32 ((spW d k).getD (k - 15) 0 : Nat)) ∧ (W.setCell ⟨w.heap.size + 1, k, none⟩ u).cell? ⟨w.heap.size + 1, k - 7, none⟩ = some (.int .u32 ((spW d k).getD (k - 7) 0 : Nat)) ∧ (W.setCell ⟨w.heap.size + 1, k, none⟩ u).cell? ⟨w.heap.size + 1, k - 2, none⟩ = some (.int .u32 ((spW d k).getD (k - 2) 0 : Nat)) from by
          have B := ((B2.out).fr0 h).set k u
          have f := fun j (hj : j ≠ k) (h64 : j < 64) => B.cell j (v := .int .u32 ((spW d k).getD j 0 : Nat)) (by rw [Array.getElem?_setIfInBounds_ne (by omega)]; exact wA_at h64)
          exact ⟨f _ (by omega) (by omega), f _ (by omega) (by omega), f _ (by omega) (by omega), f _ (by omega) (by omega)⟩)
        have CK := Lib.hid (fun (W : World) (h : Fr0 wr W) => And.intro (((B2.out).fr0 h).cell k (wA_at (l := spW d k) hlt)) (((B2.out).fr0 h).free k))
        have HS1 := Lib.hid (fun (W : World) => show Calls Try.prog 83 #[.int .u32 (((spW d k).getD (k - 15) 0 : Nat) : Int), .int .i64 7, .int .i64 18, .int .i64 3] W (fun e w' => e = .returned (.int .u32 (mixS ((spW d k).getD (k - 15) 0) 7 18 3 : Nat)) ∧ ∃ n, w' = W.drewN n) from mixS_any ((spW d k).getD (k - 15) 0) 7 18 3 W l1 (by omega) (by omega) (by omega))
        have HS2 := Lib.hid (fun (W : World) => show Calls Try.prog 83 #[.int .u32 (((spW d k).getD (k - 2) 0 : Nat) : Int), .int .i64 17, .int .i64 19, .int .i64 10] W (fun e w' => e = .returned (.int .u32 (mixS ((spW d k).getD (k - 2) 0) 17 19 10 : Nat)) ∧ ∃ n, w' = W.drewN n) from mixS_any ((spW d k).getD (k - 2) 0) 17 19 10 W l3 (by omega) (by omega) (by omega))
        have m1 : mixS ((spW d k).getD (k - 15) 0) 7 18 3 < 4294967296 := mixS_lt l1
        have m2 : mixS ((spW d k).getD (k - 2) 0) 17 19 10 < 4294967296 := mixS_lt l3
        obtain ⟨a0, ha0⟩ : ∃ x, x = (spW d k).getD (k - 16) 0 := ⟨_, rfl⟩
        obtain ⟨a1, ha1⟩ : ∃ x, x = (spW d k).getD (k - 15) 0 := ⟨_, rfl⟩
        obtain ⟨a2, ha2⟩ : ∃ x, x = (spW d k).getD (k - 7) 0 := ⟨_, rfl⟩
        obtain ⟨a3, ha3⟩ : ∃ x, x = (spW d k).getD (k - 2) 0 := ⟨_, rfl⟩
        rw [← ha0] at NS NT HNW l0
        rw [← ha1] at NS NT HNW HS1 m1 l1
        rw [← ha2] at NS NT HNW l2
        rw [← ha3] at NS NT HNW HS2 m2 l3
        obtain ⟨s1, hs1⟩ : ∃ x, x = mixS a1 7 18 3 := ⟨_, rfl⟩
        obtain ⟨s2, hs2⟩ : ∃ x, x = mixS a3 17 19 10 := ⟨_, rfl⟩
        rw [← hs1] at HNW HS1 m1
        rw [← hs2] at HNW HS2 m2
        obtain ⟨z, hz4⟩ : ∃ z, z = nextW d (spW d k) := ⟨_, rfl⟩
        rw [← hz4] at HNW
        have HO := Lib.hid hz4
        have HZ := Lib.hid (show IntKind.u32.wrap (IntKind.u32.wrap (IntKind.u32.wrap ((a0 : Int) + (s1 : Int)) + (a2 : Int)) + (s2 : Int)) = (z : Int) by
          rw [HNW.out]
          show (((((a0 : Int) + s1) % 4294967296 + a2) % 4294967296) + s2) % 4294967296 = _
          omega)
        clear ha0 ha1 ha2 ha3 hs1 hs2 hz4
        have e1 : IntKind.i64.wrap ((k : Int) - 16) = (k : Int) - 16 := IntWalk.i64_in _ (by omega)
        have e2 : IntKind.i64.wrap ((k : Int) - 15) = (k : Int) - 15 := IntWalk.i64_in _ (by omega)
        have e3 : IntKind.i64.wrap ((k : Int) - 7) = (k : Int) - 7 := IntWalk.i64_in _ (by omega)
        have e4 : IntKind.i64.wrap ((k : Int) - 2) = (k : Int) - 2 := IntWalk.i64_in _ (by omega)
        have j0 : (0 : Int) ≤ (k : Int) - 16 := by omega
        have j1 : (k : Int) - 16 < 64 := by omega
        have j2 : (0 : Int) ≤ (k : Int) - 15 := by omega
        have j3 : (k : Int) - 15 < 64 := by omega
        have j4 : (0 : Int) ≤ (k : Int) - 7 := by omega
        have j5 : (k : Int) - 7 < 64 := by omega
        have j6 : (0 : Int) ≤ (k : Int) - 2 := by omega
        have j7 : (k : Int) - 2 < 64 := by omega
        have J0 : (16 : Int) ≤ (k : Int) := by omega
        have J2 : (15 : Int) ≤ (k : Int) := by omega
        have J4 : (7 : Int) ≤ (k : Int) := by omega
        have J6 : (2 : Int) ≤ (k : Int) := by omega
        have n1 : ((k : Int) - 16).toNat = k - 16 := by omega
        have n2 : ((k : Int) - 15).toNat = k - 15 := by omega
        have n3 : ((k : Int) - 7).toNat = k - 7 := by omega
        have n4 : ((k : Int) - 2).toNat = k - 2 := by omega
        have SN := Lib.hid (fun (W : World) (h : Fr0 w W) (u : Value) => Fr0.setNew h 1 k u)
        go_wp2_with fail
        have Q := Lib.hid ((Fr0.refl wr).drew)
        go_region_held_law (fun w' => w'.cell? ⟨w.heap.size + 1, k - 16, none⟩ = some (.int .u32 (a0 : Int)) ∧ w'.cell? ⟨w.heap.size + 1, k - 15, none⟩ = some (.int .u32 (a1 : Int)) ∧ w'.cell? ⟨w.heap.size + 1, k - 7, none⟩ = some (.int .u32 (a2 : Int)) ∧ w'.cell? ⟨w.heap.size + 1, k - 2, none⟩ = some (.int .u32 (a3 : Int))) (first | with_reducible exact NS.out _ Q.out | with_reducible exact NS.out _ (Fr0.drew Q.out) | with_reducible exact NT.out _ (Fr0.drew Q.out) _ | with_reducible exact NT.out _ Q.out _) (first | ((with_reducible refine (HS1.out _).mono ?_); rintro e w5 ⟨rfl, nn, hw⟩; replace Q := Lib.hid (show Fr0 wr w5 by rw [hw]; exact (Q.out).drewN nn); clear hw; have ck5 := (CK.out _ Q.out).1; have fk5 := (CK.out _ Q.out).2) | ((with_reducible refine (HS2.out _).mono ?_); rintro e w6 ⟨rfl, nn, hw⟩; replace Q := Lib.hid (show Fr0 wr w6 by rw [hw]; exact (Q.out).drewN nn); clear hw; have ck6 := (CK.out _ Q.out).1; have fk6 := (CK.out _ Q.out).2))
        go_wp2_with fail
        go_roundw
        case measure => simp [intOf]; omega
        case rel =>
          have FW := Lib.hid (Fr0.trans F2.out Q.out)
          have hB := ((B2.out).fr0 Q.out).set k (.int .u32 (z : Int))
          have hp := wA_push (n := 64) (l := spW d k) (by rw [L.out]; exact hlt) z
          rw [L.out] at hp
          rw [hp] at hB
          have e : spW d (k + 1) = spW d k ++ [z] := by
            show spW d k ++ [nextW d (spW d k)] = _
            rw [HO.out]
          rw [← e] at hB
          have hZ2 := ((Z2.out).fr0 Q.out).other (p := ⟨w.heap.size + 1, k, none⟩) (by show w.heap.size ≠ w.heap.size + 1; omega) (.int .u32 (z : Int))
          have hz9 : ((((a0 : Int) + s1) % 4294967296 + a2) % 4294967296 + s2) % 4294967296 = (z : Int) := HZ.out
          rw [hz9]
          exact ⟨k + 1, by omega, by go_num, SN.out _ FW.out _, hB, hZ2⟩
    · obtain rfl : k = 64 := by omega
      clear hlt hk
      have hi : (Try.prog.info? 121).map (·.size) = some (wA 64 (spW d 64)).size := by rw [wA_size (Nat.le_of_eq (spW_len d 64))]; kernel_rfl
      have ho : (wA 64 []).size = (wA 64 (spW d 64)).size := by rw [wA_size (l := spW d 64) (Nat.le_of_eq (spW_len d 64)), wA_size (l := []) (Nat.zero_le _)]
      have h1 := wA_one 64 (spW d 64)
      obtain ⟨cs, hcs⟩ : ∃ cs, cs = wA 64 (spW d 64) := ⟨_, rfl⟩
      rw [← hcs] at hb hi ho h1
      obtain ⟨zs, hzs⟩ : ∃ zs, zs = wA 64 [] := ⟨_, rfl⟩
      rw [← hzs] at hz ho
      have HCS := Lib.hid hcs
      clear hcs hzs
      repeat (first
        | refine wpList_load_row rfl 121 _ rfl (w.heap.size + 1) rfl 121 _ (0, 0) _ hb Try.underlying121 rfl hi ?_
        | refine wpList_store_row rfl 121 _ _ rfl w.heap.size cs rfl rfl 121 _ hz hi ho h1 ?_
        | go_step)
      refine bodyPost_ret (v := .agg cs) (results_cell_row rfl _ _ w.heap.size 121 cs (0, 0) _ rfl (hz.setRow cs) Try.underlying121 rfl hi) rfl ⟨by rw [HCS.out], Fr.setRow hf (.inr (Nat.le_refl _)) cs⟩
end Go.Proofs.Ytgcjbbliaelkcaa
