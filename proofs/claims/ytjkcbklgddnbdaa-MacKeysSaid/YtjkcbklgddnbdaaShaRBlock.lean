/- The reference's Block walked. Conditions stand in the statements. -/
import Derived.Test.YtjkcbklgddnbdaaShaRTurns
import Derived.Outline
set_option linter.unusedSimpArgs false
namespace Go.Proofs.Ytjkcbklgddnbdaa
open Go.RowKit

theorem Fr0.setNew3 {w w1 : World} (h : Fr0 w w1) (k : Nat) (u : Value) : Fr0 w (w1.setCell ⟨w.heap.size + 1 + 1 + 1, k, none⟩ u) := Fr.setCell (p := ⟨w.heap.size + 1 + 1 + 1, k, none⟩) h (.inr (by show w.heap.size ≤ w.heap.size + 1 + 1 + 1; omega)) u
set_option maxHeartbeats 8000000 in
set_option maxRecDepth 100000 in
theorem rblock_any {x : H8} {g off c : Nat} {d : List UInt8} {w : World} (hx : x.ok) (h : RdB w (.slice (some ⟨g, off, none⟩) 64 c) d) (hd : d.length = 64) :
    Calls Try.prog 29 #[.agg (h8c x), .slice (some ⟨g, off, none⟩) 64 c, .agg (wA 64 turnL)] w fun e w' => e = .returned (.agg (h8c (takeN x d turnL))) ∧ Fr0 w w' := by
  have HX := Lib.hid hx
  have HD := Lib.hid hd
  have HR := Lib.hid (show RdB w (.slice (some ⟨g, off, none⟩) d.length c) d by rw [hd]; exact h)
  obtain ⟨xs, hxs⟩ : ∃ xs, xs = h8c x := ⟨_, rfl⟩
  obtain ⟨kA, hkA⟩ : ∃ kA, kA = wA 64 turnL := ⟨_, rfl⟩
  rw [← hxs, ← hkA]
  have HXS := Lib.hid hxs
  have HKA := Lib.hid hkA
  have N1 := Lib.hid (Blk.new w xs 48)
  have N2 := Lib.hid (show Blk ((w.alloc (.cells xs 48)).alloc (.cells kA 50)) (w.heap.size + 1) kA 50 from by
    have h := Blk.new (w.alloc (.cells xs 48)) kA 50
    rw [show (w.alloc (.cells xs 48)).heap.size = w.heap.size + 1 from Array.size_push _] at h
    exact h)
  have N3 := Lib.hid (show Blk (((w.alloc (.cells xs 48)).alloc (.cells kA 50)).alloc (.cells (wA 8 []) 48)) (w.heap.size + 1 + 1) (wA 8 []) 48 from by
    have h := Blk.new ((w.alloc (.cells xs 48)).alloc (.cells kA 50)) (wA 8 []) 48
    rw [show ((w.alloc (.cells xs 48)).alloc (.cells kA 50)).heap.size = w.heap.size + 1 + 1 from by simp] at h
    exact h)
  have N4 := Lib.hid (show Blk ((((w.alloc (.cells xs 48)).alloc (.cells kA 50)).alloc (.cells (wA 8 []) 48)).alloc (.cells (wA 64 []) 50)) (w.heap.size + 1 + 1 + 1) (wA 64 []) 50 from by
    have h := Blk.new (((w.alloc (.cells xs 48)).alloc (.cells kA 50)).alloc (.cells (wA 8 []) 48)) (wA 64 []) 50
    rw [show (((w.alloc (.cells xs 48)).alloc (.cells kA 50)).alloc (.cells (wA 8 []) 48)).heap.size = w.heap.size + 1 + 1 + 1 from by simp] at h
    exact h)
  clear hx h hd hxs hkA
  go_enter Try.func29, Try.ntmps29
  go_wp2_with fail
  go_loopw [8] (fun v8 wr => ∃ k : Nat, k ≤ 64 ∧ v8 = .int .i64 k ∧ Fr0 w wr ∧ Blk wr w.heap.size xs 48 ∧ Blk wr (w.heap.size + 1) kA 50 ∧ Blk wr (w.heap.size + 1 + 1) (wA 8 []) 48 ∧ Blk wr (w.heap.size + 1 + 1 + 1) (wA 64 (spW d k)) 50) (fun v8 _ => 64 - (intOf v8).toNat)
  case atStart => exact ⟨0, Nat.zero_le _, rfl, ((((Fr0.refl w).alloc _).alloc _).alloc _).alloc _, (((N1.out).alloc _).alloc _).alloc _, ((N2.out).alloc _).alloc _, (N3.out).alloc _, N4.out⟩
  case round =>
    obtain ⟨k, hk, rfl, hf, hb1, hb2, hb3, hb⟩ := hrel
    by_cases hlt : k < 64
    · have F2 := Lib.hid hf
      have B2 := Lib.hid hb
      have C1 := Lib.hid hb1
      have C2 := Lib.hid hb2
      have C3 := Lib.hid hb3
      have i0 : (0 : Int) ≤ (k : Int) := by omega
      have i1 : (k : Int) < 64 := by omega
      have g1 := hb.free k
      have L := Lib.hid (spW_len d k)
      clear hf hb1 hb2 hb3
      by_cases h16 : k < 16
      · have q1 : decide ((k : Int) < 16) = true := by simp; omega
        have q2 : decide (k < 16) = true := by simpa using h16
        have R := Lib.hid ((HR.out).fr0 F2.out)
        have c1 := hb.cell k (wA_at hlt)
        clear hb
        have j0 : (0 : Int) ≤ 4 * (k : Int) := by omega
        have j1 : 4 * (k : Int) < 64 := by omega
        have j2 : (0 : Int) ≤ 4 * (k : Int) + 1 := by omega
        have j3 : 4 * (k : Int) + 1 < 64 := by omega
        have j4 : (0 : Int) ≤ 4 * (k : Int) + 2 := by omega
        have j5 : 4 * (k : Int) + 2 < 64 := by omega
        have j6 : (0 : Int) ≤ 4 * (k : Int) + 3 := by omega
        have j7 : 4 * (k : Int) + 3 < 64 := by omega
        have e1 : IntKind.i64.wrap (4 * (k : Int)) = 4 * (k : Int) := IntWalk.i64_in _ (by omega)
        have e2 : IntKind.i64.wrap (4 * (k : Int) + 1) = 4 * (k : Int) + 1 := IntWalk.i64_in _ (by omega)
        have e3 : IntKind.i64.wrap (4 * (k : Int) + 2) = 4 * (k : Int) + 2 := IntWalk.i64_in _ (by omega)
        have e4 : IntKind.i64.wrap (4 * (k : Int) + 3) = 4 * (k : Int) + 3 := IntWalk.i64_in _ (by omega)
        have n1 : (4 * (k : Int)).toNat = 4 * k := by omega
        have n2 : (4 * (k : Int) + 1).toNat = 4 * k + 1 := by omega
        have n3 : (4 * (k : Int) + 2).toNat = 4 * k + 2 := by omega
        have n4 : (4 * (k : Int) + 3).toNat = 4 * k + 3 := by omega
        have k0 := rdb_bAt R.out (i := 4 * k) (by rw [HD.out]; omega)
        have k1 := rdb_bAt R.out (i := 4 * k + 1) (by rw [HD.out]; omega)
        have k2 := rdb_bAt R.out (i := 4 * k + 2) (by rw [HD.out]; omega)
        have k3 := rdb_bAt R.out (i := 4 * k + 3) (by rw [HD.out]; omega)
        have x0 := bAt_lt d (4 * k)
        have x1 := bAt_lt d (4 * k + 1)
        have x2 := bAt_lt d (4 * k + 2)
        have x3 := bAt_lt d (4 * k + 3)
        have HW := Lib.hid (show word4 d k = bAt d (4 * k) * 16777216 + bAt d (4 * k + 1) * 65536 + bAt d (4 * k + 2) * 256 + bAt d (4 * k + 3) from rfl)
        obtain ⟨b0, hb0⟩ : ∃ x, x = bAt d (4 * k) := ⟨_, rfl⟩
        obtain ⟨b1, hb1⟩ : ∃ x, x = bAt d (4 * k + 1) := ⟨_, rfl⟩
        obtain ⟨b2, hb2⟩ : ∃ x, x = bAt d (4 * k + 2) := ⟨_, rfl⟩
        obtain ⟨b3, hb3⟩ : ∃ x, x = bAt d (4 * k + 3) := ⟨_, rfl⟩
        rw [← hb0] at k0 x0 HW
        rw [← hb1] at k1 x1 HW
        rw [← hb2] at k2 x2 HW
        rw [← hb3] at k3 x3 HW
        have NS := Lib.hid (fun (W : World) (hf : Fr0 w W) => (show W.cell? ⟨g, off + 4 * k, none⟩ = some (.int .u8 b0) ∧ W.cell? ⟨g, off + (4 * k + 1), none⟩ = some (.int .u8 b1) ∧ W.cell? ⟨g, off + (4 * k + 2), none⟩ = some (.int .u8 b2) ∧ W.cell? ⟨g, off + (4 * k + 3), none⟩ = some (.int .u8 b3) by
          rw [hb0, hb1, hb2, hb3]
          have R := (HR.out).fr0 hf
          exact ⟨rdb_bAt R (by rw [HD.out]; omega), rdb_bAt R (by rw [HD.out]; omega), rdb_bAt R (by rw [HD.out]; omega), rdb_bAt R (by rw [HD.out]; omega)⟩))
        clear hb0 hb1 hb2 hb3
        have w0 : IntKind.u32.wrap (b0 : Int) = b0 := by show (b0 : Int) % 4294967296 = _; omega
        have w1 : IntKind.u32.wrap (b1 : Int) = b1 := by show (b1 : Int) % 4294967296 = _; omega
        have w2 : IntKind.u32.wrap (b2 : Int) = b2 := by show (b2 : Int) % 4294967296 = _; omega
        have w3 : IntKind.u32.wrap (b3 : Int) = b3 := by show (b3 : Int) % 4294967296 = _; omega
        have HZ := Lib.hid (show (b0 : Int) * 16777216 + (b1 : Int) * 65536 + (b2 : Int) * 256 + (b3 : Int) = ((word4 d k : Nat) : Int) by rw [HW.out]; omega)
        obtain ⟨z, hz4⟩ : ∃ z, z = word4 d k := ⟨_, rfl⟩
        rw [← hz4] at HZ
        have ez := HZ.out
        have HO := Lib.hid hz4
        have SN := Lib.hid (fun (u : Value) => Fr0.setNew3 F2.out k u)
        clear hz4 HW
        go_wp2_with fail
        go_region_held_law (fun w' => w'.cell? ⟨g, off + 4 * k, none⟩ = some (.int .u8 b0) ∧ w'.cell? ⟨g, off + (4 * k + 1), none⟩ = some (.int .u8 b1) ∧ w'.cell? ⟨g, off + (4 * k + 2), none⟩ = some (.int .u8 b2) ∧ w'.cell? ⟨g, off + (4 * k + 3), none⟩ = some (.int .u8 b3)) (first | with_reducible exact NS.out _ F2.out | with_reducible exact NS.out _ (Fr0.drew F2.out) | with_reducible exact NS.out _ (SN.out _) | with_reducible exact NS.out _ (Fr0.drew (SN.out _))) (fail)
        go_wp2_with fail
        go_roundw
        case measure => simp [intOf]; omega
        case rel =>
          have hB := (B2.out).set k (.int .u32 (z : Int))
          have hp := wA_push (n := 64) (l := spW d k) (by rw [L.out]; exact hlt) z
          rw [L.out] at hp
          rw [hp] at hB
          have e : spW d (k + 1) = spW d k ++ [z] := by
            show spW d k ++ [nextW d (spW d k)] = _
            unfold nextW
            rw [L.out, if_pos h16, HO.out]
          rw [← e] at hB
          rw [ez]
          exact ⟨k + 1, by omega, by go_num, (SN.out _).drew, ((C1.out).other (p := ⟨w.heap.size + 1 + 1 + 1, k, none⟩) (by show w.heap.size ≠ w.heap.size + 1 + 1 + 1; omega) _).drew, ((C2.out).other (p := ⟨w.heap.size + 1 + 1 + 1, k, none⟩) (by show w.heap.size + 1 ≠ w.heap.size + 1 + 1 + 1; omega) _).drew, ((C3.out).other (p := ⟨w.heap.size + 1 + 1 + 1, k, none⟩) (by show w.heap.size + 1 + 1 ≠ w.heap.size + 1 + 1 + 1; omega) _).drew, hB.drew⟩
      · have q1 : decide ((k : Int) < 16) = false := by simp; omega
        have q2 : decide (k < 16) = false := by simpa using h16
        have c1 := hb.cell k (wA_at hlt)
        have hbl := spW_lt d k
        clear hb
        have HNW := Lib.hid (show nextW d (spW d k) = ((spW d k).getD (k - 16) 0 + mixS ((spW d k).getD (k - 15) 0) 7 18 3 + (spW d k).getD (k - 7) 0 + mixS ((spW d k).getD (k - 2) 0) 17 19 10) % 4294967296 by unfold nextW; rw [L.out, if_neg h16])
        have wl : ∀ i, (spW d k).getD i 0 < 4294967296 := by
          intro i
          rcases Nat.lt_or_ge i (spW d k).length with h | h
          · rw [show (spW d k).getD i 0 = (spW d k)[i] from by simp [List.getD, h]]; exact hbl _ (List.getElem_mem h)
          · rw [show (spW d k).getD i 0 = 0 from by simp [List.getD, List.getElem?_eq_none h]]; decide
        have l0 := wl (k - 16)
        have l1 := wl (k - 15)
        have l2 := wl (k - 7)
        have l3 := wl (k - 2)
        clear hbl wl
        have NS := Lib.hid (fun (W : World) (h : Fr0 wr W) => show W.cell? ⟨w.heap.size + 1 + 1 + 1, k - 16, none⟩ = some (.int .u32 ((spW d k).getD (k - 16) 0 : Nat)) ∧ W.cell? ⟨w.heap.size + 1 + 1 + 1, k - 15, none⟩ = some (.int .u32 ((spW d k).getD (k - 15) 0 : Nat)) ∧ W.cell? ⟨w.heap.size + 1 + 1 + 1, k - 7, none⟩ = some (.int .u32 ((spW d k).getD (k - 7) 0 : Nat)) ∧ W.cell? ⟨w.heap.size + 1 + 1 + 1, k - 2, none⟩ = some (.int .u32 ((spW d k).getD (k - 2) 0 : Nat)) from by
          have B := (B2.out).fr0 h
          exact ⟨B.cell _ (wA_at (by omega)), B.cell _ (wA_at (by omega)), B.cell _ (wA_at (by omega)), B.cell _ (wA_at (by omega))⟩)
        have NT := Lib.hid (fun (W : World) (h : Fr0 wr W) (u : Value) => show (W.setCell ⟨w.heap.size + 1 + 1 + 1, k, none⟩ u).cell? ⟨w.heap.size + 1 + 1 + 1, k - 16, none⟩ = some (.int .u32 ((spW d k).getD (k - 16) 0 : Nat)) ∧ (W.setCell ⟨w.heap.size + 1 + 1 + 1, k, none⟩ u).cell? ⟨w.heap.size + 1 + 1 + 1, k - 15, none⟩ = some (.int .u32 ((spW d k).getD (k - 15) 0 : Nat)) ∧ (W.setCell ⟨w.heap.size + 1 + 1 + 1, k, none⟩ u).cell? ⟨w.heap.size + 1 + 1 + 1, k - 7, none⟩ = some (.int .u32 ((spW d k).getD (k - 7) 0 : Nat)) ∧ (W.setCell ⟨w.heap.size + 1 + 1 + 1, k, none⟩ u).cell? ⟨w.heap.size + 1 + 1 + 1, k - 2, none⟩ = some (.int .u32 ((spW d k).getD (k - 2) 0 : Nat)) from by
          have B := ((B2.out).fr0 h).set k u
          have f := fun j (hj : j ≠ k) (h64 : j < 64) => B.cell j (v := .int .u32 ((spW d k).getD j 0 : Nat)) (by rw [Array.getElem?_setIfInBounds_ne (by omega)]; exact wA_at h64)
          exact ⟨f _ (by omega) (by omega), f _ (by omega) (by omega), f _ (by omega) (by omega), f _ (by omega) (by omega)⟩)
        have CK := Lib.hid (fun (W : World) (h : Fr0 wr W) => And.intro (((B2.out).fr0 h).cell k (wA_at (l := spW d k) hlt)) (((B2.out).fr0 h).free k))
        obtain ⟨a0, ha0⟩ : ∃ x, x = (spW d k).getD (k - 16) 0 := ⟨_, rfl⟩
        obtain ⟨a1, ha1⟩ : ∃ x, x = (spW d k).getD (k - 15) 0 := ⟨_, rfl⟩
        obtain ⟨a2, ha2⟩ : ∃ x, x = (spW d k).getD (k - 7) 0 := ⟨_, rfl⟩
        obtain ⟨a3, ha3⟩ : ∃ x, x = (spW d k).getD (k - 2) 0 := ⟨_, rfl⟩
        rw [← ha0] at NS NT HNW l0
        rw [← ha1] at NS NT HNW l1
        rw [← ha2] at NS NT HNW l2
        rw [← ha3] at NS NT HNW l3
        have HA1 := Lib.hid (fun (W : World) => show Calls Try.prog 39 #[.int .u32 (a1 : Int), .int .i64 7] W (fun e w' => e = .returned (.int .u32 (rotr a1 7 : Nat)) ∧ W = w') from rrot_any a1 7 W (by omega) (by omega) (by omega))
        have HB1 := Lib.hid (fun (W : World) => show Calls Try.prog 39 #[.int .u32 (a1 : Int), .int .i64 18] W (fun e w' => e = .returned (.int .u32 (rotr a1 18 : Nat)) ∧ W = w') from rrot_any a1 18 W (by omega) (by omega) (by omega))
        have la1 := rotr_lt (x := a1) (a := 7) (by omega)
        have lb1 := rotr_lt (x := a1) (a := 18) (by omega)
        have HM1 := Lib.hid (show mixS a1 7 18 3 = rotr a1 7 ^^^ rotr a1 18 ^^^ a1 / 8 from rfl)
        obtain ⟨ra1, hra1⟩ : ∃ r, r = rotr a1 7 := ⟨_, rfl⟩
        obtain ⟨rb1, hrb1⟩ : ∃ r, r = rotr a1 18 := ⟨_, rfl⟩
        rw [← hra1] at HA1 la1 HM1
        rw [← hrb1] at HB1 lb1 HM1
        have x11 := u32_xor_nat ra1 rb1 la1 lb1
        have lc1 : a1 / 8 < 4294967296 := by omega
        have x12 := u32_xor_nat (ra1 ^^^ rb1) (a1 / 8) (xor_lt la1 lb1) lc1
        have x13 : (a1 : Int) / 8 = ((a1 / 8 : Nat) : Int) := by omega
        have m1 : mixS a1 7 18 3 < 4294967296 := mixS_lt (by omega)
        rw [← HM1.out] at x12
        obtain ⟨rc1, hrc1⟩ : ∃ r, r = a1 / 8 := ⟨_, rfl⟩
        rw [← hrc1] at x12 x13
        obtain ⟨rx1, hrx1⟩ : ∃ r, r = ra1 ^^^ rb1 := ⟨_, rfl⟩
        rw [← hrx1] at x11 x12
        obtain ⟨s1, hs1⟩ : ∃ x, x = mixS a1 7 18 3 := ⟨_, rfl⟩
        rw [← hs1] at HNW m1 x12
        clear hra1 hrb1 hrc1 hrx1 HM1
        have HA2 := Lib.hid (fun (W : World) => show Calls Try.prog 39 #[.int .u32 (a3 : Int), .int .i64 17] W (fun e w' => e = .returned (.int .u32 (rotr a3 17 : Nat)) ∧ W = w') from rrot_any a3 17 W (by omega) (by omega) (by omega))
        have HB2 := Lib.hid (fun (W : World) => show Calls Try.prog 39 #[.int .u32 (a3 : Int), .int .i64 19] W (fun e w' => e = .returned (.int .u32 (rotr a3 19 : Nat)) ∧ W = w') from rrot_any a3 19 W (by omega) (by omega) (by omega))
        have la2 := rotr_lt (x := a3) (a := 17) (by omega)
        have lb2 := rotr_lt (x := a3) (a := 19) (by omega)
        have HM2 := Lib.hid (show mixS a3 17 19 10 = rotr a3 17 ^^^ rotr a3 19 ^^^ a3 / 1024 from rfl)
        obtain ⟨ra2, hra2⟩ : ∃ r, r = rotr a3 17 := ⟨_, rfl⟩
        obtain ⟨rb2, hrb2⟩ : ∃ r, r = rotr a3 19 := ⟨_, rfl⟩
        rw [← hra2] at HA2 la2 HM2
        rw [← hrb2] at HB2 lb2 HM2
        have x21 := u32_xor_nat ra2 rb2 la2 lb2
        have lc2 : a3 / 1024 < 4294967296 := by omega
        have x22 := u32_xor_nat (ra2 ^^^ rb2) (a3 / 1024) (xor_lt la2 lb2) lc2
        have x23 : (a3 : Int) / 1024 = ((a3 / 1024 : Nat) : Int) := by omega
        have m2 : mixS a3 17 19 10 < 4294967296 := mixS_lt (by omega)
        rw [← HM2.out] at x22
        obtain ⟨rc2, hrc2⟩ : ∃ r, r = a3 / 1024 := ⟨_, rfl⟩
        rw [← hrc2] at x22 x23
        obtain ⟨rx2, hrx2⟩ : ∃ r, r = ra2 ^^^ rb2 := ⟨_, rfl⟩
        rw [← hrx2] at x21 x22
        obtain ⟨s2, hs2⟩ : ∃ x, x = mixS a3 17 19 10 := ⟨_, rfl⟩
        rw [← hs2] at HNW m2 x22
        clear hra2 hrb2 hrc2 hrx2 HM2
        obtain ⟨z, hz4⟩ : ∃ z, z = nextW d (spW d k) := ⟨_, rfl⟩
        rw [← hz4] at HNW
        have HO := Lib.hid hz4
        have HZ := Lib.hid (show IntKind.u32.wrap (IntKind.u32.wrap (IntKind.u32.wrap ((a0 : Int) + (s1 : Int)) + (a2 : Int)) + (s2 : Int)) = (z : Int) by
          rw [HNW.out]
          show (((((a0 : Int) + s1) % 4294967296 + a2) % 4294967296) + s2) % 4294967296 = _
          omega)
        clear ha0 ha1 ha2 ha3 hs1 hs2 hz4
        have e1 : IntKind.i64.wrap ((k : Int) - 16) = (k : Int) - 16 := IntWalk.i64_in _ (by omega)
        have e2 : IntKind.i64.wrap ((k : Int) - 15) = (k : Int) - 15 := IntWalk.i64_in _ (by omega)
        have e3 : IntKind.i64.wrap ((k : Int) - 7) = (k : Int) - 7 := IntWalk.i64_in _ (by omega)
        have e4 : IntKind.i64.wrap ((k : Int) - 2) = (k : Int) - 2 := IntWalk.i64_in _ (by omega)
        have j0 : (0 : Int) ≤ (k : Int) - 16 := by omega
        have j1 : (k : Int) - 16 < 64 := by omega
        have j2 : (0 : Int) ≤ (k : Int) - 15 := by omega
        have j3 : (k : Int) - 15 < 64 := by omega
        have j4 : (0 : Int) ≤ (k : Int) - 7 := by omega
        have j5 : (k : Int) - 7 < 64 := by omega
        have j6 : (0 : Int) ≤ (k : Int) - 2 := by omega
        have j7 : (k : Int) - 2 < 64 := by omega
        have J0 : (16 : Int) ≤ (k : Int) := by omega
        have J2 : (15 : Int) ≤ (k : Int) := by omega
        have J4 : (7 : Int) ≤ (k : Int) := by omega
        have J6 : (2 : Int) ≤ (k : Int) := by omega
        have n1 : ((k : Int) - 16).toNat = k - 16 := by omega
        have n2 : ((k : Int) - 15).toNat = k - 15 := by omega
        have n3 : ((k : Int) - 7).toNat = k - 7 := by omega
        have n4 : ((k : Int) - 2).toNat = k - 2 := by omega
        have SN := Lib.hid (fun (W : World) (h : Fr0 w W) (u : Value) => Fr0.setNew3 h k u)
        have cc0 := (NS.out _ (Fr0.refl wr)).1
        have cc1 := (NS.out _ (Fr0.refl wr)).2.1
        have cc2 := (NS.out _ (Fr0.refl wr)).2.2.1
        have cc3 := (NS.out _ (Fr0.refl wr)).2.2.2
        have ez := HZ.out
        go_wp2_with (first
          | (go_at_call 39; (with_reducible refine (HA1.out _).mono ?_); rintro e w' ⟨rfl, rfl⟩)
          | (go_at_call 39; (with_reducible refine (HB1.out _).mono ?_); rintro e w' ⟨rfl, rfl⟩)
          | (go_at_call 39; (with_reducible refine (HA2.out _).mono ?_); rintro e w' ⟨rfl, rfl⟩)
          | (go_at_call 39; (with_reducible refine (HB2.out _).mono ?_); rintro e w' ⟨rfl, rfl⟩))
        have Q := Lib.hid ((Fr0.refl wr).drew)
        clear cc0 cc1 cc2 cc3 x11 x12 x13 x21 x22 x23
        go_region_held_law (fun w' => w'.cell? ⟨w.heap.size + 1 + 1 + 1, k - 16, none⟩ = some (.int .u32 (a0 : Int)) ∧ w'.cell? ⟨w.heap.size + 1 + 1 + 1, k - 7, none⟩ = some (.int .u32 (a2 : Int))) (first | exact ⟨(NS.out _ Q.out).1, (NS.out _ Q.out).2.2.1⟩ | exact ⟨(NT.out _ Q.out _).1, (NT.out _ Q.out _).2.2.1⟩ | exact ⟨(NT.out _ (Fr0.refl wr) _).1, (NT.out _ (Fr0.refl wr) _).2.2.1⟩) (fail)
        go_wp2_with fail
        go_roundw
        case measure => simp [intOf]; omega
        case rel =>
          have hB := ((B2.out)).set k (.int .u32 (z : Int))
          have hp := wA_push (n := 64) (l := spW d k) (by rw [L.out]; exact hlt) z
          rw [L.out] at hp
          rw [hp] at hB
          have e : spW d (k + 1) = spW d k ++ [z] := by
            show spW d k ++ [nextW d (spW d k)] = _
            rw [HO.out]
          rw [← e] at hB
          exact ⟨k + 1, by omega, by go_num, (SN.out _ F2.out _).drew, ((C1.out).other (p := ⟨w.heap.size + 1 + 1 + 1, k, none⟩) (by show w.heap.size ≠ w.heap.size + 1 + 1 + 1; omega) _).drew, ((C2.out).other (p := ⟨w.heap.size + 1 + 1 + 1, k, none⟩) (by show w.heap.size + 1 ≠ w.heap.size + 1 + 1 + 1; omega) _).drew, ((C3.out).other (p := ⟨w.heap.size + 1 + 1 + 1, k, none⟩) (by show w.heap.size + 1 + 1 ≠ w.heap.size + 1 + 1 + 1; omega) _).drew, hB.drew⟩
    · obtain rfl : k = 64 := by omega
      clear hlt hk
      have hXS := HXS.out
      have hKA := HKA.out
      have HW := Lib.hid (spW_lt d 64)
      obtain ⟨ws, hws⟩ : ∃ ws, ws = spW d 64 := ⟨_, rfl⟩
      rw [← hws] at hb HW
      have HWS := Lib.hid hws
      clear hws
      have HWL := Lib.hid (fun i => getD_lt HW.out (by decide) i)
      subst hXS
      have hi8 : (Try.prog.info? 48).map (·.size) = some (h8c x).size := by kernel_rfl
      have ho8 : (wA 8 []).size = (h8c x).size := rfl
      have h1x := h8_one x
      have C1 := Lib.hid hb1
      have C2 := Lib.hid hb2
      have C3 := Lib.hid hb3
      have C4 := Lib.hid hb
      have F2 := Lib.hid hf
      have zr : w.heap.size + 4 ≤ wr.heap.size := by have := hb.lt; omega
      have hrun8 : ∀ W : World, (Instr.alloc 48 true (.tuple #[])).run Try.prog W = .ok (.pointer (some ⟨W.heap.size, 0, none⟩)) (W.alloc (.cells (wA 8 []) 48)) := fun _ => by kernel_rfl
      have HRUN8 := Lib.hid hrun8
      clear hb1 hb2 hb3 hb hf hKA hrun8
      go_wp2_with (first
        | (refine list_load_blk rfl 48 _ rfl w.heap.size rfl 48 _ C1.out _ Try.underlying48 rfl hi8 ?_)
        | (refine list_alloc_blk rfl 48 rfl (wA 8 []) HRUN8.out ?_; intro g13 w1 hB hF hl; have D0 := Lib.hid hB; have G1 := Lib.hid hF; have l13 := hl; clear hB hF hl)
        | (refine list_store_blk rfl 48 _ _ rfl g13 (h8c x) rfl rfl 48 _ D0.out hi8 ho8 h1x ?_; intro w2 hB hF; have D1 := Lib.hid hB; have G2 := Lib.hid (Fr0.new G1.out hF l13); clear hB hF))
      go_loopw [14] (fun v14 wq => ∃ k : Nat, k ≤ 64 ∧ v14 = .int .i64 k ∧ Fr0 wr wq ∧ Blk wq g13 (h8c (rnds x turnL ws k)) 48) (fun v14 _ => 64 - (intOf v14).toNat)
      case atStart => exact ⟨0, Nat.zero_le _, rfl, G2.out, D1.out⟩
      case round =>
        obtain ⟨k, hk, rfl, hf, b3⟩ := hrel
        by_cases hlt : k < 64
        · have FQ := Lib.hid hf
          have B3 := Lib.hid b3
          have YO := Lib.hid ((HX.out).rnds turnL ws k)
          have HRS := Lib.hid (show rnds x turnL ws (k + 1) = rnd (rnds x turnL ws k) (turnL.getD k 0) (ws.getD k 0) from rfl)
          obtain ⟨y, hy⟩ : ∃ y, y = rnds x turnL ws k := ⟨_, rfl⟩
          rw [← hy] at b3 B3 YO HRS
          have b2 := (C2.out).fr0 hf
          have b4 := (C4.out).fr0 hf
          rw [HKA.out] at b2
          clear hy hf
          obtain ⟨ya, yb, yc, yd, ye, yf, yg, yh⟩ := y
          obtain ⟨o1, o2, o3, o4, o5, o6, o7, o8⟩ := YO.out
          have i0 : (0 : Int) ≤ (k : Int) := by omega
          have i1 : (k : Int) < 64 := by omega
          have d0 := b3.cell 0 (v := .int .u32 (ya : Int)) rfl
          have d1 := b3.cell 1 (v := .int .u32 (yb : Int)) rfl
          have d2 := b3.cell 2 (v := .int .u32 (yc : Int)) rfl
          have d3 := b3.cell 3 (v := .int .u32 (yd : Int)) rfl
          have d4 := b3.cell 4 (v := .int .u32 (ye : Int)) rfl
          have d5 := b3.cell 5 (v := .int .u32 (yf : Int)) rfl
          have d6 := b3.cell 6 (v := .int .u32 (yg : Int)) rfl
          have d7 := b3.cell 7 (v := .int .u32 (yh : Int)) rfl
          have dk := b2.cell k (wA_at (l := turnL) hlt)
          have lk := turnL_lt k
          have dw := b4.cell k (wA_at (l := ws) hlt)
          have lw := (HWL.out) k
          obtain ⟨kk, hkk⟩ : ∃ z, z = turnL.getD k 0 := ⟨_, rfl⟩
          obtain ⟨wk, hwk⟩ : ∃ z, z = ws.getD k 0 := ⟨_, rfl⟩
          rw [← hkk] at dk lk HRS
          rw [← hwk] at dw lw HRS
          have HU := Lib.hid (show uN ⟨ya, yb, yc, yd, ye, yf, yg, yh⟩ kk wk = (yh + mixT ye 6 11 25 + ((ye &&& yf) ^^^ (inv32 ye &&& yg)) + kk + wk) % 4294967296 from rfl)
          have HV := Lib.hid (show vN ⟨ya, yb, yc, yd, ye, yf, yg, yh⟩ = (mixT ya 2 13 22 + ((ya &&& yb) ^^^ (ya &&& yc) ^^^ (yb &&& yc))) % 4294967296 from rfl)
          have HRD := Lib.hid (show rnd ⟨ya, yb, yc, yd, ye, yf, yg, yh⟩ kk wk = ⟨(uN ⟨ya, yb, yc, yd, ye, yf, yg, yh⟩ kk wk + vN ⟨ya, yb, yc, yd, ye, yf, yg, yh⟩) % 4294967296, ya, yb, yc, (yd + uN ⟨ya, yb, yc, yd, ye, yf, yg, yh⟩ kk wk) % 4294967296, ye, yf, yg⟩ from rfl)
          have Ha1 := Lib.hid (fun (W : World) => show Calls Try.prog 39 #[.int .u32 (ye : Int), .int .i64 6] W (fun e w' => e = .returned (.int .u32 (rotr ye 6 : Nat)) ∧ W = w') from rrot_any ye 6 W o5 (by omega) (by omega))
          have la1 := rotr_lt (a := 6) o5
          have Hb1 := Lib.hid (fun (W : World) => show Calls Try.prog 39 #[.int .u32 (ye : Int), .int .i64 11] W (fun e w' => e = .returned (.int .u32 (rotr ye 11 : Nat)) ∧ W = w') from rrot_any ye 11 W o5 (by omega) (by omega))
          have lb1 := rotr_lt (a := 11) o5
          have Hc1 := Lib.hid (fun (W : World) => show Calls Try.prog 39 #[.int .u32 (ye : Int), .int .i64 25] W (fun e w' => e = .returned (.int .u32 (rotr ye 25 : Nat)) ∧ W = w') from rrot_any ye 25 W o5 (by omega) (by omega))
          have lc1 := rotr_lt (a := 25) o5
          have HM1 := Lib.hid (show mixT ye 6 11 25 = rotr ye 6 ^^^ rotr ye 11 ^^^ rotr ye 25 from rfl)
          obtain ⟨ra1, hra1⟩ : ∃ r, r = rotr ye 6 := ⟨_, rfl⟩
          rw [← hra1] at Ha1 la1 HM1
          obtain ⟨rb1, hrb1⟩ : ∃ r, r = rotr ye 11 := ⟨_, rfl⟩
          rw [← hrb1] at Hb1 lb1 HM1
          obtain ⟨rc1, hrc1⟩ : ∃ r, r = rotr ye 25 := ⟨_, rfl⟩
          rw [← hrc1] at Hc1 lc1 HM1
          have x11 := u32_xor_nat ra1 rb1 la1 lb1
          have x12 := u32_xor_nat (ra1 ^^^ rb1) rc1 (xor_lt la1 lb1) lc1
          have m1l := mixT_lt (a := 6) (b := 11) (c := 25) o5
          rw [← HM1.out] at x12
          obtain ⟨rx1, hrx1⟩ : ∃ r, r = ra1 ^^^ rb1 := ⟨_, rfl⟩
          rw [← hrx1] at x11 x12
          obtain ⟨m1, hm1⟩ : ∃ z, z = mixT ye 6 11 25 := ⟨_, rfl⟩
          rw [← hm1] at m1l x12 HU
          clear hra1 hrb1 hrc1 hrx1 HM1
          have Ha2 := Lib.hid (fun (W : World) => show Calls Try.prog 39 #[.int .u32 (ya : Int), .int .i64 2] W (fun e w' => e = .returned (.int .u32 (rotr ya 2 : Nat)) ∧ W = w') from rrot_any ya 2 W o1 (by omega) (by omega))
          have la2 := rotr_lt (a := 2) o1
          have Hb2 := Lib.hid (fun (W : World) => show Calls Try.prog 39 #[.int .u32 (ya : Int), .int .i64 13] W (fun e w' => e = .returned (.int .u32 (rotr ya 13 : Nat)) ∧ W = w') from rrot_any ya 13 W o1 (by omega) (by omega))
          have lb2 := rotr_lt (a := 13) o1
          have Hc2 := Lib.hid (fun (W : World) => show Calls Try.prog 39 #[.int .u32 (ya : Int), .int .i64 22] W (fun e w' => e = .returned (.int .u32 (rotr ya 22 : Nat)) ∧ W = w') from rrot_any ya 22 W o1 (by omega) (by omega))
          have lc2 := rotr_lt (a := 22) o1
          have HM2 := Lib.hid (show mixT ya 2 13 22 = rotr ya 2 ^^^ rotr ya 13 ^^^ rotr ya 22 from rfl)
          obtain ⟨ra2, hra2⟩ : ∃ r, r = rotr ya 2 := ⟨_, rfl⟩
          rw [← hra2] at Ha2 la2 HM2
          obtain ⟨rb2, hrb2⟩ : ∃ r, r = rotr ya 13 := ⟨_, rfl⟩
          rw [← hrb2] at Hb2 lb2 HM2
          obtain ⟨rc2, hrc2⟩ : ∃ r, r = rotr ya 22 := ⟨_, rfl⟩
          rw [← hrc2] at Hc2 lc2 HM2
          have x21 := u32_xor_nat ra2 rb2 la2 lb2
          have x22 := u32_xor_nat (ra2 ^^^ rb2) rc2 (xor_lt la2 lb2) lc2
          have m2l := mixT_lt (a := 2) (b := 13) (c := 22) o1
          rw [← HM2.out] at x22
          obtain ⟨rx2, hrx2⟩ : ∃ r, r = ra2 ^^^ rb2 := ⟨_, rfl⟩
          rw [← hrx2] at x21 x22
          obtain ⟨m2, hm2⟩ : ∃ z, z = mixT ya 2 13 22 := ⟨_, rfl⟩
          rw [← hm2] at m2l x22 HV
          clear hra2 hrb2 hrc2 hrx2 HM2
          have q1 := u32_and_nat ye yf o5 o6
          have q2 := inv_eq ye o5
          have q2l : inv32 ye < 4294967296 := by unfold inv32; omega
          obtain ⟨iv, hiv⟩ : ∃ z, z = inv32 ye := ⟨_, rfl⟩
          rw [← hiv] at q2 q2l HU
          have q3 := u32_and_nat iv yg q2l o7
          have q1l := and_lt (b := yf) o5
          have q3l := and_lt (b := yg) q2l
          obtain ⟨p1, hp1⟩ : ∃ z, z = ye &&& yf := ⟨_, rfl⟩
          obtain ⟨p3, hp3⟩ : ∃ z, z = iv &&& yg := ⟨_, rfl⟩
          rw [← hp1] at q1 q1l HU
          rw [← hp3] at q3 q3l HU
          have q4 := u32_xor_nat p1 p3 q1l q3l
          obtain ⟨ch, hch⟩ : ∃ z, z = p1 ^^^ p3 := ⟨_, rfl⟩
          rw [← hch] at q4 HU
          have t1 := u32_and_nat ya yb o1 o2
          have t2 := u32_and_nat ya yc o1 o3
          have t3 := u32_and_nat yb yc o2 o3
          have t1l := and_lt (b := yb) o1
          have t2l := and_lt (b := yc) o1
          have t3l := and_lt (b := yc) o2
          obtain ⟨r1, hr1⟩ : ∃ z, z = ya &&& yb := ⟨_, rfl⟩
          obtain ⟨r2, hr2⟩ : ∃ z, z = ya &&& yc := ⟨_, rfl⟩
          obtain ⟨r3, hr3⟩ : ∃ z, z = yb &&& yc := ⟨_, rfl⟩
          rw [← hr1] at t1 t1l HV
          rw [← hr2] at t2 t2l HV
          rw [← hr3] at t3 t3l HV
          have t4 := u32_xor_nat r1 r2 t1l t2l
          have t4l := xor_lt t1l t2l
          obtain ⟨r4, hr4⟩ : ∃ z, z = r1 ^^^ r2 := ⟨_, rfl⟩
          rw [← hr4] at t4 t4l HV
          have t5 := u32_xor_nat r4 r3 t4l t3l
          obtain ⟨mj, hmj⟩ : ∃ z, z = r4 ^^^ r3 := ⟨_, rfl⟩
          rw [← hmj] at t5 HV
          obtain ⟨u, hu⟩ : ∃ z, z = uN ⟨ya, yb, yc, yd, ye, yf, yg, yh⟩ kk wk := ⟨_, rfl⟩
          obtain ⟨v, hv⟩ : ∃ z, z = vN ⟨ya, yb, yc, yd, ye, yf, yg, yh⟩ := ⟨_, rfl⟩
          rw [← hu] at HU HRD
          rw [← hv] at HV HRD
          have ul : u < 4294967296 := by rw [HU.out]; exact Nat.mod_lt _ (by decide)
          have vl : v < 4294967296 := by rw [HV.out]; exact Nat.mod_lt _ (by decide)
          have eu : ((yh : Int) + (m1 : Int) + (ch : Int) + (kk : Int) + (wk : Int)) % 4294967296 = (u : Int) := by rw [HU.out]; omega
          have ev : ((m2 : Int) + (mj : Int)) % 4294967296 = (v : Int) := by rw [HV.out]; omega
          obtain ⟨n0, hn0⟩ : ∃ z, z = (u + v) % 4294967296 := ⟨_, rfl⟩
          obtain ⟨n4, hn4⟩ : ∃ z, z = (yd + u) % 4294967296 := ⟨_, rfl⟩
          rw [← hn0, ← hn4] at HRD
          have e0 : ((u : Int) + (v : Int)) % 4294967296 = (n0 : Int) := by rw [hn0]; omega
          have e4 : ((yd : Int) + (u : Int)) % 4294967296 = (n4 : Int) := by rw [hn4]; omega
          clear b2 b3 b4 hkk hwk hm1 hm2 hiv hp1 hp3 hch hr1 hr2 hr3 hr4 hmj hu hv hn0 hn4 HU HV
          go_wp2_with fail
          go_quiet ((go_at_call 39; first | (with_reducible exact quiet_leftS (Ha1.out _)) | (with_reducible exact quiet_leftS (Hb1.out _)) | (with_reducible exact quiet_leftS (Hc1.out _))))
          go_wp2_with fail
          change World.cell? (wr.drewN nq) _ = _ at d0 d1 d2 d3 d4 d5 d6 d7 dk dw
          replace FQ := Lib.hid ((FQ.out).drewN nq)
          replace B3 := Lib.hid (show Blk (wr.drewN nq) _ _ _ from (B3.out).drewN nq)
          generalize wr.drewN nq = wd at *
          go_quiet ((go_at_call 39; first | (with_reducible exact quiet_leftS (Ha2.out _)) | (with_reducible exact quiet_leftS (Hb2.out _)) | (with_reducible exact quiet_leftS (Hc2.out _))))
          have hiY : (Try.prog.info? 48).map (·.size) = some (h8c ⟨ya, yb, yc, yd, ye, yf, yg, yh⟩).size := by kernel_rfl
          have hoY : (wA 8 []).size = (h8c ⟨ya, yb, yc, yd, ye, yf, yg, yh⟩).size := rfl
          have h1Y := h8_one ⟨ya, yb, yc, yd, ye, yf, yg, yh⟩
          have HIY := Lib.hid hiY
          have HOY := Lib.hid hoY
          have HNY := Lib.hid h1Y
          have B4 := Lib.hid (show Blk (wd.drewN nq) _ _ _ from (B3.out).drewN nq)
          have FD := Lib.hid ((FQ.out).drewN nq)
          clear hiY hoY h1Y d0 d1 d2 d3 d4 d5 d6 d7 dk dw
          generalize wd.drewN nq = we at *
          go_upto_region 21 with (first
            | (refine list_load_blk rfl 48 _ rfl g13 rfl 48 _ B4.out _ Try.underlying48 rfl HIY.out ?_)
            | (refine list_alloc_blk rfl 48 rfl (wA 8 []) HRUN8.out ?_; intro g19 w5 hB hF hl; have E0 := Lib.hid hB; have FE := Lib.hid hF; have l19 := hl; clear hB hF hl)
            | (refine list_store_blk rfl 48 _ _ rfl g19 (h8c ⟨ya, yb, yc, yd, ye, yf, yg, yh⟩) rfl rfl 48 _ E0.out HIY.out HOY.out HNY.out ?_; intro w6 hB hF; have E1 := Lib.hid hB; have FF := Lib.hid (Fr0.new FE.out hF l19); clear hB hF))
          simp only [Act.put]
          have B6 := Lib.hid ((B4.out).fr0 FF.out)
          have hne : g13 ≠ g19 := by have := (B4.out).lt; omega
          have hne2 : g19 ≠ g13 := fun h => hne h.symm
          have d0 := (B6.out).cell 0 (v := .int .u32 (ya : Int)) rfl
          have d1 := (B6.out).cell 1 (v := .int .u32 (yb : Int)) rfl
          have d2 := (B6.out).cell 2 (v := .int .u32 (yc : Int)) rfl
          have d3 := (B6.out).cell 3 (v := .int .u32 (yd : Int)) rfl
          have d4 := (B6.out).cell 4 (v := .int .u32 (ye : Int)) rfl
          have d5 := (B6.out).cell 5 (v := .int .u32 (yf : Int)) rfl
          have d6 := (B6.out).cell 6 (v := .int .u32 (yg : Int)) rfl
          have d7 := (B6.out).cell 7 (v := .int .u32 (yh : Int)) rfl
          have e0c := (E1.out).cell 0 (v := .int .u32 (ya : Int)) rfl
          have f0c := (E1.out).free 0
          have e1c := (E1.out).cell 1 (v := .int .u32 (yb : Int)) rfl
          have f1c := (E1.out).free 1
          have e2c := (E1.out).cell 2 (v := .int .u32 (yc : Int)) rfl
          have f2c := (E1.out).free 2
          have e3c := (E1.out).cell 3 (v := .int .u32 (yd : Int)) rfl
          have f3c := (E1.out).free 3
          have e4c := (E1.out).cell 4 (v := .int .u32 (ye : Int)) rfl
          have f4c := (E1.out).free 4
          have e5c := (E1.out).cell 5 (v := .int .u32 (yf : Int)) rfl
          have f5c := (E1.out).free 5
          have e6c := (E1.out).cell 6 (v := .int .u32 (yg : Int)) rfl
          have f6c := (E1.out).free 6
          have e7c := (E1.out).cell 7 (v := .int .u32 (yh : Int)) rfl
          have f7c := (E1.out).free 7
          have HIN := Lib.hid (show (Try.prog.info? 48).map (·.size) = some (h8c ⟨n0, ya, yb, yc, n4, ye, yf, yg⟩).size by kernel_rfl)
          have HNN := Lib.hid (h8_one ⟨n0, ya, yb, yc, n4, ye, yf, yg⟩)
          have HON := Lib.hid (show (h8c ⟨ya, yb, yc, yd, ye, yf, yg, yh⟩).size = (h8c ⟨n0, ya, yb, yc, n4, ye, yf, yg⟩).size from rfl)
          go_upto_region 29 with (fail)
          have EN := (((((((((E1.out).set 7 (.int .u32 (yg : Int))).set 6 (.int .u32 (yf : Int))).set 5 (.int .u32 (ye : Int))).set 4 (.int .u32 (n4 : Int))).set 3 (.int .u32 (yc : Int))).set 2 (.int .u32 (yb : Int))).set 1 (.int .u32 (ya : Int))).set 0 (.int .u32 (n0 : Int)))
          have FS := (((((((((Fr1.refl g19 w6).set 7 (.int .u32 (yg : Int))).set 6 (.int .u32 (yf : Int))).set 5 (.int .u32 (ye : Int))).set 4 (.int .u32 (n4 : Int))).set 3 (.int .u32 (yc : Int))).set 2 (.int .u32 (yb : Int))).set 1 (.int .u32 (ya : Int))).set 0 (.int .u32 (n0 : Int)))
          generalize World.setCell _ ⟨g19, 0, none⟩ _ = w9 at *
          have EN2 := Lib.hid (show Blk w9 g19 (h8c ⟨n0, ya, yb, yc, n4, ye, yf, yg⟩) 48 from EN)
          have B9 := Lib.hid ((B6.out).fr1 FS hne)
          have hgg : _ ≤ g19 := Nat.le_trans (FD.out).size l19
          have F9 := Lib.hid (Fr0.new (Fr0.trans FD.out FF.out) FS hgg)
          clear EN FS d0 d1 d2 d3 d4 d5 d6 d7 e0c e1c e2c e3c e4c e5c e6c e7c f0c f1c f2c f3c f4c f5c f6c f7c
          go_wp2_with (first
            | (refine list_load_blk rfl 48 _ rfl g19 rfl 48 _ EN2.out _ Try.underlying48 rfl HIN.out ?_)
            | (refine list_store_blk rfl 48 _ _ rfl g13 (h8c ⟨n0, ya, yb, yc, n4, ye, yf, yg⟩) rfl rfl 48 _ B9.out HIN.out HON.out HNN.out ?_; intro w10 hB hF; have BN := Lib.hid hB; have FN := Lib.hid (Fr0.new F9.out hF l13); clear hB hF))
          go_roundw
          case measure => simp [intOf]; omega
          case rel =>
            have hb := BN.out
            rw [← HRD.out, ← HRS.out] at hb
            exact ⟨k + 1, by omega, by go_num, FN.out, hb⟩
        · obtain rfl : k = 64 := by omega
          clear hlt hk
          have HT := Lib.hid (show takeN x d turnL = add8 (rnds x turnL ws 64) x by rw [HWS.out]; rfl)
          have c1 := (C1.out).fr0 hf
          have c3 := (C3.out).fr0 hf
          have FWQ := Lib.hid (Fr0.trans F2.out hf)
          obtain ⟨y, hy⟩ : ∃ y, y = rnds x turnL ws 64 := ⟨_, rfl⟩
          rw [← hy] at b3 HT
          clear hy hf
          have hz : ∀ i, i < 8 → (add8 y x).list.getD i 0 = (y.list.getD i 0 + x.list.getD i 0) % 4294967296 := by
            intro i hi
            rcases (by omega : i = 0 ∨ i = 1 ∨ i = 2 ∨ i = 3 ∨ i = 4 ∨ i = 5 ∨ i = 6 ∨ i = 7) with rfl | rfl | rfl | rfl | rfl | rfl | rfl | rfl <;> rfl
          have HT2 := Lib.hid (show h8c (takeN x d turnL) = wA 8 (add8 y x).list by rw [HT.out]; rfl)
          rw [show h8c y = wA 8 y.list from rfl] at b3
          rw [show h8c x = wA 8 x.list from rfl] at c1
          obtain ⟨zl, hzl⟩ : ∃ zl, zl = (add8 y x).list := ⟨_, rfl⟩
          obtain ⟨yl, hyl⟩ : ∃ yl, yl = y.list := ⟨_, rfl⟩
          obtain ⟨xl, hxl⟩ : ∃ xl, xl = x.list := ⟨_, rfl⟩
          have z8 := Lib.hid (show zl.length = 8 by rw [hzl]; rfl)
          have y8 := Lib.hid (show yl.length = 8 by rw [hyl]; rfl)
          rw [← hzl, ← hyl, ← hxl] at hz
          rw [← hzl] at HT2
          rw [← hyl] at b3
          rw [← hxl] at c1
          have HZ := Lib.hid hz
          have hg13 : w.heap.size + 3 < g13 := by have := (C4.out).lt; omega
          clear hz hzl hyl hxl HT
          go_wp2_with fail
          go_loopw [20] (fun v20 w2 => ∃ i : Nat, i ≤ 8 ∧ v20 = .int .i64 i ∧ Fr0 w w2 ∧ Blk w2 g13 (wA 8 (zl.take i ++ yl.drop i)) 48 ∧ Blk w2 (w.heap.size + 1 + 1) (wA 8 []) 48 ∧ Blk w2 w.heap.size (wA 8 xl) 48) (fun v20 _ => 8 - (intOf v20).toNat)
          case atStart => exact ⟨0, Nat.zero_le _, rfl, FWQ.out, b3, c3, c1⟩
          case round =>
            obtain ⟨i, hi, rfl, hf, b3, b6, b8⟩ := hrel
            by_cases hlt : i < 8
            · have F2 := Lib.hid hf
              have B3 := Lib.hid b3
              have B6 := Lib.hid b6
              have B8 := Lib.hid b8
              have i0 : (0 : Int) ≤ (i : Int) := by omega
              have i1 : (i : Int) < 8 := by omega
              have d0 := b3.cell i (wA_at (l := zl.take i ++ yl.drop i) hlt)
              rw [half_at z8.out hlt] at d0
              have f0 := b3.free i
              have d1 := b8.cell i (wA_at (l := xl) hlt)
              obtain ⟨a, ha⟩ : ∃ a, a = yl.getD i 0 := ⟨_, rfl⟩
              obtain ⟨b, hb⟩ : ∃ b, b = xl.getD i 0 := ⟨_, rfl⟩
              rw [← ha] at d0
              rw [← hb] at d1
              have HS := Lib.hid (show zl.getD i 0 = (a + b) % 4294967296 by rw [ha, hb]; exact (HZ.out) i hlt)
              obtain ⟨s, hs⟩ : ∃ s, s = (a + b) % 4294967296 := ⟨_, rfl⟩
              rw [← hs] at HS
              have es : ((a : Int) + (b : Int)) % 4294967296 = (s : Int) := by rw [hs]; omega
              clear hf b3 b6 b8 ha hb hs
              go_wp2_with fail
              go_region
              all_goals
                go_wp2_with fail
                go_roundw
                case measure => simp [intOf]; omega
                case rel =>
                  have hB := ((B3.out).set i (.int .u32 (s : Int)))
                  rw [wA_set (by rw [half_len z8.out y8.out (by omega)]; exact hlt), ← HS.out, half_set z8.out y8.out hlt, HS.out] at hB
                  exact ⟨i + 1, by omega, by go_num, Fr.setCell (p := ⟨g13, i, none⟩) (F2.out).drew (.inr (by show w.heap.size ≤ g13; omega)) _, hB.drew, ((B6.out).other (p := ⟨g13, i, none⟩) (by show w.heap.size + 1 + 1 ≠ g13; omega) _).drew, ((B8.out).other (p := ⟨g13, i, none⟩) (by show w.heap.size ≠ g13; omega) _).drew⟩
            · obtain rfl : i = 8 := by omega
              have e : zl.take 8 ++ yl.drop 8 = zl := by rw [List.take_of_length_le (by rw [z8.out]; omega), List.drop_of_length_le (by rw [y8.out]; omega), List.append_nil]
              rw [e, ← HT2.out] at b3
              clear e hlt hi
              obtain ⟨Z, hZ⟩ : ∃ Z, Z = takeN x d turnL := ⟨_, rfl⟩
              rw [← hZ] at b3
              have HZZ := Lib.hid hZ
              clear hZ
              have hiZ : (Try.prog.info? 48).map (·.size) = some (h8c Z).size := by kernel_rfl
              have hoZ : (wA 8 []).size = (h8c Z).size := rfl
              have h1Z := h8_one Z
              obtain ⟨cs, hcs⟩ : ∃ cs, cs = h8c Z := ⟨_, rfl⟩
              rw [← hcs] at b3 hiZ hoZ h1Z
              have HF := Lib.hid hf
              have HCS := Lib.hid hcs
              clear hcs hf
              repeat (first
                | refine list_load_blk rfl 48 _ rfl g13 rfl 48 _ b3 _ Try.underlying48 rfl hiZ ?_
                | (refine list_store_blk rfl 48 _ _ rfl (w.heap.size + 1 + 1) cs rfl rfl 48 _ b6 hiZ hoZ h1Z ?_; intro W9 hB hF)
                | go_values | go_skip | go_step)
              refine bodyPost_ret (v := .agg cs) (results_cell_row rfl _ _ (w.heap.size + 1 + 1) 48 cs (0, 0) _ rfl hB Try.underlying48 rfl hiZ) rfl ⟨by rw [HCS.out, HZZ.out], Fr0.new HF.out hF (by omega)⟩
end Go.Proofs.Ytjkcbklgddnbdaa
