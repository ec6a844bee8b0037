/- The reference's block hidden. Conditions stand in the statements. -/
import Derived.Test.YtpmindbipclphaaAesRRn
set_option linter.unusedSimpArgs false
set_option linter.unusedVariables false
namespace Go.Proofs.Ytpmindbipclphaa
open Go.RowKit

theorem rtimes_still (a b : UInt8) (W : World) : Calls Try.prog 56 #[.int .u8 (a.toNat : Int), .int .u8 (b.toNat : Int)] W fun e w' => e = .returned (.int .u8 ((rtm a b).toNat : Int)) ∧ w' = W := (rtimes_any a b W).mono fun _ _ h => ⟨h.1, h.2.symm⟩
theorem mvL_at (b : List UInt8) {i : Nat} (h : i < 16) : (mvL b).getD i 0 = swp (b.getD (4 * ((i / 4 + i % 4) % 4) + i % 4) 0) := by
  unfold mvL
  rw [map16_at _ h, show (i + 4 * (i % 4)) % 16 = 4 * ((i / 4 + i % 4) % 4) + i % 4 by omega]
theorem mxL_at (b : List UInt8) {c r : Nat} (hc : c < 4) (hr : r < 4) : (mxL b).getD (4 * c + r) 0 = tms 2 (b.getD (4 * c + r) 0) ^^^ tms 3 (b.getD (4 * c + (r + 1) % 4) 0) ^^^ b.getD (4 * c + (r + 2) % 4) 0 ^^^ b.getD (4 * c + (r + 3) % 4) 0 := by
  unfold mxL
  rw [map16_at _ (by omega), mxB, show (4 * c + r) / 4 * 4 + (4 * c + r) % 4 = 4 * c + r by omega, show (4 * c + r) / 4 * 4 + (4 * c + r + 1) % 4 = 4 * c + (r + 1) % 4 by omega, show (4 * c + r) / 4 * 4 + (4 * c + r + 2) % 4 = 4 * c + (r + 2) % 4 by omega,
    show (4 * c + r) / 4 * 4 + (4 * c + r + 3) % 4 = 4 * c + (r + 3) % 4 by omega]
theorem adL_at (b r : List UInt8) {i : Nat} (h : i < 16) : (adL b r).getD i 0 = b.getD i 0 ^^^ r.getD i 0 := map16_at _ h
theorem ridx (c r k : Nat) (K : Int) (hK : K = (k : Int)) (hc : c < 4) (hr : r < 4) (hk : k ≤ 3) : ∃ m p : Nat, m = (r + k) % 4 ∧ p = 4 * c + m ∧ p < 16 ∧ IntKind.i64.wrap ((r : Int) + K) = (r : Int) + K ∧ ((r : Int) + K).tmod 4 = (m : Int) ∧ IntKind.i64.wrap (4 * (c : Int) + (m : Int)) = (p : Int) ∧ (p : Int) < 16 ∧ (0 : Int) ≤ (p : Int) :=
  ⟨(r + k) % 4, 4 * c + (r + k) % 4, rfl, rfl, by omega, IntWalk.i64_in _ (by omega), by rw [Int.tmod_eq_emod_of_nonneg (by omega)]; omega, by rw [IntWalk.i64_in _ (by omega)]; omega, by omega, by omega⟩
theorem ridx0 (c r : Nat) (hc : c < 4) (hr : r < 4) : ∃ p : Nat, p = 4 * c + r ∧ p < 16 ∧ IntKind.i64.wrap (4 * (c : Int)) = 4 * (c : Int) ∧ IntKind.i64.wrap (4 * (c : Int) + (r : Int)) = (p : Int) ∧ (p : Int) < 16 ∧ (0 : Int) ≤ (p : Int) :=
  ⟨4 * c + r, rfl, by omega, IntWalk.i64_in _ (by omega), by rw [IntWalk.i64_in _ (by omega)]; omega, by omega, by omega⟩
set_option maxHeartbeats 8000000 in
set_option maxRecDepth 100000 in
theorem rhide_any {ks b : List UInt8} {w : World} (hk : ks.length = 176) (hb : b.length = 16) : Calls Try.prog 57 #[.agg (byts ks).toArray, .agg (byts sbox).toArray, .agg (byts b).toArray] w fun e w' => e = .returned (.agg (byts (hdS ks b 10)).toArray) ∧ Fr0 w w' := by
  have HKL := Lib.hid hk
  have HBL := Lib.hid hb
  have HD0 := Lib.hid (fun i (h : i < 16) => show (hdS ks b 0).getD i 0 = b.getD i 0 ^^^ ks.getD (0 * 16 + i) 0 from by rw [show hdS ks b 0 = adL b (rkL ks 0) from rfl, adL_at _ _ h, rkL_at h])
  have HDS := Lib.hid (fun j i (h : i < 16) => show (hdS ks b (j + 1)).getD i 0 = (if j + 1 < 10 then mxL (mvL (hdS ks b j)) else mvL (hdS ks b j)).getD i 0 ^^^ ks.getD ((j + 1) * 16 + i) 0 from by
    rw [show hdS ks b (j + 1) = adL (if j + 1 < 10 then mxL (mvL (hdS ks b j)) else mvL (hdS ks b j)) (rkL ks (j + 1)) from rfl, adL_at _ _ h, rkL_at h, Nat.mul_comm])
  have HDL := Lib.hid (hdS_len ks b)
  have HMV := Lib.hid (fun d i (h : i < 16) => mvL_at d h)
  have HMX := Lib.hid (fun d c r (h1 : c < 4) (h2 : r < 4) => mxL_at d h1 h2)
  have HVL := Lib.hid (fun d => show (mvL d).length = 16 from map16_len _)
  have HXL := Lib.hid (fun d => show (mxL d).length = 16 from map16_len _)
  have HSW := Lib.hid (fun x => show swp x = sbox.getD x.toNat 0 from rfl)
  have HT2 := Lib.hid (fun (y : UInt8) W => show Calls Try.prog 56 #[.int .u8 2, .int .u8 (y.toNat : Int)] W (fun e w' => e = .returned (.int .u8 ((tms 2 y).toNat : Int)) ∧ w' = W) from by
    have := rtimes_still 2 y W
    rwa [rtm2] at this)
  have HT3 := Lib.hid (fun (y : UInt8) W => show Calls Try.prog 56 #[.int .u8 3, .int .u8 (y.toNat : Int)] W (fun e w' => e = .returned (.int .u8 ((tms 3 y).toNat : Int)) ∧ w' = W) from by
    have := rtimes_still 3 y W
    rwa [rtm3] at this)
  have SL := Lib.hid sbox_len
  have HIA := Lib.hid (fun (d : List UInt8) (h : d.length = 16) => a16_info h)
  have HZ16 := Lib.hid (fun (d : List UInt8) (h : d.length = 16) => z16_size h)
  have HSZ := Lib.hid (fun (d e : List UInt8) (h : d.length = 16) (h2 : e.length = 16) => show (byts d).toArray.size = (byts e).toArray.size by rw [byts_size, byts_size, h, h2])
  obtain ⟨wa, hwa⟩ : ∃ W, W = ((w.alloc (.cells (byts ks).toArray 74)).alloc (.cells (byts sbox).toArray 72)).alloc (.cells (byts b).toArray 31) := ⟨_, rfl⟩
  have FA := Lib.hid (show Fr0 w wa by rw [hwa]; exact (((Fr0.refl w).alloc _).alloc _).alloc _)
  have R0 := Lib.hid (show Blk wa w.heap.size (byts ks).toArray 74 by rw [hwa]; exact ((Blk.new w _ 74).alloc _).alloc _)
  have S0 := Lib.hid (show Blk wa (w.heap.size + 1) (byts sbox).toArray 72 by rw [hwa]; have := (Blk.new (w.alloc (.cells (byts ks).toArray 74)) (byts sbox).toArray 72).alloc (.cells (byts b).toArray 31); simpa using this)
  have B0 := Lib.hid (show Blk wa (w.heap.size + 2) (byts b).toArray 31 by rw [hwa]; have := Blk.new ((w.alloc (.cells (byts ks).toArray 74)).alloc (.cells (byts sbox).toArray 72)) (byts b).toArray 31; simpa using this)
  have HRUN := Lib.hid (fun W => z16_run W)
  have has := Lib.hid (show wa.heap.size = w.heap.size + 3 by rw [hwa]; simp)
  obtain ⟨D, hD⟩ : ∃ T, T = hdS ks b := ⟨_, rfl⟩
  obtain ⟨sb, hsb⟩ : ∃ T, T = sbox := ⟨_, rfl⟩
  obtain ⟨sw, hsw⟩ : ∃ T, T = swp := ⟨_, rfl⟩
  obtain ⟨z, hz⟩ : ∃ z, z = z16A := ⟨_, rfl⟩
  obtain ⟨ck, hck⟩ : ∃ c, c = (byts ks).toArray := ⟨_, rfl⟩
  obtain ⟨cs, hcs⟩ : ∃ c, c = (byts sbox).toArray := ⟨_, rfl⟩
  obtain ⟨cb, hcb⟩ : ∃ c, c = (byts b).toArray := ⟨_, rfl⟩
  rw [← hD] at HD0 HDS HDL ⊢
  rw [← hsw] at HMV HSW
  rw [← hcs] at S0 hwa ⊢
  have HCS := Lib.hid (show cs = (byts sb).toArray by rw [hcs, hsb])
  rw [← hsb] at HSW SL
  have HZZ := Lib.hid (fun T => hz.trans (show z16A = (byts (fillU T 16 0)).toArray from rfl))
  rw [← hz] at HRUN HZ16
  rw [← hck] at R0 hwa ⊢
  rw [← hcb] at B0 hwa ⊢
  have HCK := Lib.hid hck
  have HCB := Lib.hid hcb
  clear hz hck hcs hcb hk hb hsb hsw hD
  go_enter Try.func57, Try.ntmps57
  go_upto_region 2 with (refine list_alloc_blk rfl 31 rfl z HRUN.out ?_; intro g6 w6 hB hF hl; rw [← hwa] at hF hl; have Z6 := Lib.hid hB; have F6 := Lib.hid hF; have L6 := Lib.hid hl; clear hB hF hl)
  clear hwa
  have R6 := Lib.hid ((R0.out).fr0 F6.out)
  have S6 := Lib.hid ((S0.out).fr0 F6.out)
  have B6 := Lib.hid ((B0.out).fr0 F6.out)
  have G6 := Lib.hid (Fr0.trans FA.out F6.out)
  have l6 := L6.out
  have ls := has.out
  obtain ⟨gb, hgb⟩ : ∃ g, g = w.heap.size + 2 := ⟨_, rfl⟩
  obtain ⟨gt, hgt⟩ : ∃ g, g = w.heap.size + 1 := ⟨_, rfl⟩
  obtain ⟨gr, hgr⟩ : ∃ g, g = w.heap.size := ⟨_, rfl⟩
  rw [← hgb] at B6
  rw [← hgt] at S6
  rw [← hgr] at R6
  rw [← hgb, ← hgt, ← hgr]
  have nrb : gr ≠ gb := by omega
  have ntb : gt ≠ gb := by omega
  have n6b : g6 ≠ gb := by omega
  have LB := Lib.hid (show w.heap.size ≤ gb by omega)
  have LG6 := Lib.hid (show w.heap.size ≤ g6 by omega)
  have HGB := Lib.hid (show gr < g6 ∧ gt < g6 ∧ gb < g6 by omega)
  clear hgb hgt hgr l6 ls F6 L6 R0 S0 B0 FA has
  have R := R6
  have S := S6
  have Z := Z6
  have F := G6
  have B := Lib.hid (show Blk w6 gb (byts (overU (D 0) b 0)).toArray 31 by have h := B6.out; rw [HCB.out] at h; exact h)
  clear R6 S6 Z6 G6 B6
  have D0L := Lib.hid (HDL.out 0)
  go_loopw [7] (fun vi wr => ∃ i : Nat, i ≤ 16 ∧ vi = .int .i64 (i : Int) ∧ Blk wr gr ck 74 ∧ Blk wr gt cs 72 ∧ Blk wr gb (byts (overU (D 0) b i)).toArray 31 ∧ Blk wr g6 z 31 ∧ Fr0 w wr) (fun vi _ => 16 - (intOf vi).toNat)
  case atStart => exact ⟨0, by omega, rfl, R.out, S.out, B.out, Z.out, F.out⟩
  case round =>
    obtain ⟨i, hi, rfl, hR, hS, hB, hZ, hF⟩ := hrel
    clear R S B Z F
    have R := Lib.hid hR
    have S := Lib.hid hS
    have Z := Lib.hid hZ
    have F := Lib.hid hF
    by_cases hlt : i < 16
    · have i0 : (0 : Int) ≤ (i : Int) := by omega
      have i1 : (i : Int) < 16 := by omega
      have cb0 := hB.u8 (i := i) (by rw [overU_len D0L.out HBL.out hi]; exact hlt)
      rw [overU_at D0L.out HBL.out hi] at cb0
      have fb0 := hB.free i
      have hR' := hR
      rw [HCK.out] at hR'
      have cr0 := hR'.u8 (i := 0 * 16 + i) (by rw [HKL.out]; omega)
      have hv := HD0.out i hlt
      have HN := Lib.hid (hB.over D0L.out HBL.out hlt)
      obtain ⟨t, htt⟩ : ∃ t, t = ((D 0)).getD i 0 := ⟨_, rfl⟩
      obtain ⟨x, hxx⟩ : ∃ t, t = (b).getD i 0 := ⟨_, rfl⟩
      obtain ⟨y, hyy⟩ : ∃ t, t = ks.getD (0 * 16 + i) 0 := ⟨_, rfl⟩
      rw [← htt] at HN hv
      rw [← hxx] at cb0 hv
      rw [← hyy] at cr0 hv
      have hx := xorU x y
      rw [← hv] at hx
      rw [show 0 * 16 + i = i by omega] at cr0
      have FS := Lib.hid (((Fr1.refl gb wr).set i (.int .u8 (t.toNat : Int))).drew)
      clear hR hR' hS hB hZ hF htt hxx hyy hv
      go_wp2_with fail
      go_still_tail 10, (by kernel_rfl)
      go_wp2_with fail
      clear cb0 fb0 cr0 hx
      go_roundw
      case rel => exact ⟨i + 1, by omega, by go_num, (R.out).fr1 FS.out nrb, (S.out).fr1 FS.out ntb, (HN.out).drew, (Z.out).fr1 FS.out n6b, Fr0.new F.out FS.out LB.out⟩
      case measure => simp [intOf]; omega
    · obtain rfl : i = 16 := by omega
      rw [show ((16 : Nat) : Int) = 16 from rfl]
      have B := Lib.hid (show Blk wr gb (byts ((D 0))).toArray 31 by rw [overU_all D0L.out HBL.out] at hB; exact hB)
      clear hR hS hB hZ hF
      have D0 := B
      go_wp2_with fail
      go_loopw [8] (fun vj wr => ∃ j : Nat, j ≤ 10 ∧ vj = .int .i64 ((j : Int) + 1) ∧ Blk wr gr ck 74 ∧ Blk wr gt cs 72 ∧ Blk wr gb (byts (D j)).toArray 31 ∧ Blk wr g6 z 31 ∧ Fr0 w wr) (fun vj _ => 11 - (intOf vj).toNat)
      case atStart => exact ⟨0, by omega, rfl, R.out, S.out, D0.out, Z.out, F.out⟩
      case round =>
        obtain ⟨j, hj, rfl, hR, hS, hB, hZ, hF⟩ := hrel
        clear R S B Z F D0
        by_cases hlt : j < 10
        · have j0 : (0 : Int) ≤ (j : Int) + 1 := by omega
          have j1 : (j : Int) + 1 ≤ 10 := by omega
          have j1' : (j : Int) + 1 < 11 := by omega
          have j9 : ((j : Int) + 1).toNat = j + 1 := by omega
          have DL := Lib.hid (HDL.out j)
          have EL := Lib.hid (HDL.out (j + 1))
          have VA := Lib.hid (fun i h => HMV.out (D j) i h)
          have VL := Lib.hid (HVL.out (D j))
          have XA := Lib.hid (fun c r h1 h2 => HMX.out (mvL (D j)) c r h1 h2)
          have XL := Lib.hid (HXL.out (mvL (D j)))
          have EA := Lib.hid (fun i h => HDS.out j i h)
          obtain ⟨d, hd⟩ : ∃ d, d = D j := ⟨_, rfl⟩
          obtain ⟨e, he⟩ : ∃ d, d = D (j + 1) := ⟨_, rfl⟩
          obtain ⟨v, hv⟩ : ∃ d, d = mvL (D j) := ⟨_, rfl⟩
          obtain ⟨x, hx⟩ : ∃ d, d = mxL (mvL (D j)) := ⟨_, rfl⟩
          rw [← hx] at XA XL EA
          rw [← hv] at VA VL XA EA
          rw [← hd] at DL VA hB
          rw [← he] at EL EA
          have HE := Lib.hid he
          have R := Lib.hid hR
          have S := Lib.hid hS
          have B := Lib.hid hB
          have Z := Lib.hid hZ
          have F := Lib.hid hF
          clear hR hS hB hZ hF hd he hv hx
          go_upto_region 10 with (refine list_alloc_blk rfl 31 rfl z HRUN.out ?_; intro g9 w9 hB hF hl; have Y := Lib.hid (show Blk w9 g9 (byts (fillU v 16 0)).toArray 31 by rw [HZZ.out v] at hB; exact hB); have F9 := Lib.hid hF; have L9 := Lib.hid hl; clear hB hF hl)
          have l9 := L9.out
          have lb := (Z.out).lt
          have hg := HGB.out
          have lz := (F.out).size
          have nr9 : gr ≠ g9 := by omega
          have nt9 : gt ≠ g9 := by omega
          have nb9 : gb ≠ g9 := by omega
          have n9b : g9 ≠ gb := by omega
          have n69 : g6 ≠ g9 := by omega
          have LG9 := Lib.hid (show w.heap.size ≤ g9 by omega)
          have R := Lib.hid ((R.out).fr0 F9.out)
          have S := Lib.hid ((S.out).fr0 F9.out)
          have B := Lib.hid ((B.out).fr0 F9.out)
          have Z := Lib.hid ((Z.out).fr0 F9.out)
          have F := Lib.hid (Fr0.trans F.out F9.out)
          clear l9 lb hg lz L9 F9
          go_loopw [10] (fun v10 wx => ∃ i : Nat, i ≤ 16 ∧ v10 = .int .i64 (i : Int) ∧ Blk wx gr ck 74 ∧ Blk wx gt cs 72 ∧ Blk wx gb (byts d).toArray 31 ∧ Blk wx g9 (byts (fillU v 16 i)).toArray 31 ∧ Blk wx g6 z 31 ∧ Fr0 w wx) (fun v10 _ => 16 - (intOf v10).toNat)
          case atStart => exact ⟨0, by omega, rfl, R.out, S.out, B.out, Y.out, Z.out, F.out⟩
          case round =>
            obtain ⟨i, hi, rfl, hR, hS, hB, hY, hZ, hF⟩ := hrel
            clear R S B Y Z F
            have R := Lib.hid hR
            have S := Lib.hid hS
            have B := Lib.hid hB
            have Z := Lib.hid hZ
            have F := Lib.hid hF
            by_cases hl16 : i < 16
            · have i0 : (0 : Int) ≤ (i : Int) := by omega
              have i1 : (i : Int) < 16 := by omega
              obtain ⟨row, hrow⟩ : ∃ a, a = i % 4 := ⟨_, rfl⟩
              obtain ⟨col, hcol⟩ : ∃ a, a = i / 4 := ⟨_, rfl⟩
              obtain ⟨m, hm⟩ : ∃ a, a = (i / 4 + i % 4) % 4 := ⟨_, rfl⟩
              obtain ⟨p, hp⟩ : ∃ a, a = 4 * ((i / 4 + i % 4) % 4) + i % 4 := ⟨_, rfl⟩
              have hva := VA.out i hl16
              rw [← hp, HSW.out] at hva
              have p16 : p < 16 := by omega
              have c0 := hB.u8 (i := p) (by rw [DL.out]; exact p16)
              obtain ⟨y, hy⟩ : ∃ y, y = d.getD p 0 := ⟨_, rfl⟩
              rw [← hy] at c0 hva
              have hyl := y.toNat_lt
              have hS' := hS
              rw [HCS.out] at hS'
              have c1 := hS'.u8 (i := y.toNat) (by rw [SL.out]; exact hyl)
              rw [← hva] at c1
              have c2 := hY.u8 (i := i) (by rw [fillU_len VL.out hi]; exact hl16)
              have f2 := hY.free i
              have HN := Lib.hid (hY.fill VL.out hl16)
              obtain ⟨t, htt⟩ : ∃ t, t = v.getD i 0 := ⟨_, rfl⟩
              rw [← htt] at c1 HN
              have q1 : (i : Int).tmod 4 = (row : Int) := by rw [Int.tmod_eq_emod_of_nonneg (by omega)]; omega
              have q1' : (i : Int) % 4 = (row : Int) := by omega
              have q2 : (i : Int).tdiv 4 = (col : Int) := by rw [Int.tdiv_eq_ediv_of_nonneg (by omega)]; omega
              have q2' : (i : Int) / 4 = (col : Int) := by omega
              have q3 : ((col : Int) + (row : Int)) % 4 = (m : Int) := by omega
              have q4 : 4 * (m : Int) + (row : Int) = (p : Int) := by omega
              have b1 : (row : Int) < 4 := by omega
              have b2 : (col : Int) < 4 := by omega
              have b3 : (m : Int) < 4 := by omega
              have b4 : (p : Int) < 16 := by omega
              have b5 : (0 : Int) ≤ (p : Int) := by omega
              have b6 : (y.toNat : Int) < 256 := by omega
              have FS := Lib.hid ((Fr1.refl g9 wr).set i (.int .u8 (t.toNat : Int)))
              clear hR hS hS' hB hY hZ hF htt hva hy hyl p16 hrow hcol hm hp
              go_wp2_with fail
              clear q1 q1' q2 q2' q3 q4 b1 b2 b3 b4 b5 b6 c0 c1 c2 f2
              go_roundw
              case rel => exact ⟨i + 1, by omega, by go_num, (R.out).fr1 FS.out nr9, (S.out).fr1 FS.out nt9, (B.out).fr1 FS.out nb9, HN.out, (Z.out).fr1 FS.out n69, Fr0.new F.out FS.out LG9.out⟩
              case measure => simp [intOf]; omega
            · obtain rfl : i = 16 := by omega
              rw [show ((16 : Nat) : Int) = 16 from rfl]
              have Y := Lib.hid (show Blk wr g9 (byts v).toArray 31 by rw [fillU_all VL.out] at hY; exact hY)
              have HIV := Lib.hid (HIA.out v VL.out)
              have HZV := Lib.hid (HSZ.out d v DL.out VL.out)
              have hav := byts_all v
              clear hR hS hB hY hZ hF
              go_upto_region 16 with (first
                | (refine list_load_blk rfl 31 _ rfl g9 rfl 31 (byts v).toArray Y.out _ Try.underlying31 rfl HIV.out ?_)
                | (refine list_store_blk rfl 31 _ _ rfl gb (byts v).toArray rfl rfl 31 (byts d).toArray B.out HIV.out HZV.out hav ?_; intro w10 hB hF; have C := Lib.hid hB; have F10 := Lib.hid hF; clear hB hF))
              have R := Lib.hid ((R.out).fr1 F10.out nrb)
              have S := Lib.hid ((S.out).fr1 F10.out ntb)
              have Z := Lib.hid ((Z.out).fr1 F10.out n6b)
              have Y := Lib.hid ((Y.out).fr1 F10.out n9b)
              have F := Lib.hid (Fr0.new F.out F10.out LB.out)
              clear F10 B
              by_cases h10 : j + 1 < 10
              · have EB := Lib.hid (fun i h => show e.getD i 0 = x.getD i 0 ^^^ ks.getD ((j + 1) * 16 + i) 0 from by have := EA.out i h; rwa [if_pos h10] at this)
                have j2 : (j : Int) + 1 < 10 := by omega
                have B := Lib.hid (show Blk w10 gb (byts (overU x v (4 * 0))).toArray 31 from C.out)
                clear C h10
                go_wp2_with fail
                go_loopw [13] (fun v13 wx => ∃ c : Nat, c ≤ 4 ∧ v13 = .int .i64 (c : Int) ∧ Blk wx gr ck 74 ∧ Blk wx gt cs 72 ∧ Blk wx gb (byts (overU x v (4 * c))).toArray 31 ∧ Blk wx g9 (byts v).toArray 31 ∧ Blk wx g6 z 31 ∧ Fr0 w wx) (fun v13 _ => 4 - (intOf v13).toNat)
                case atStart => exact ⟨0, by omega, rfl, R.out, S.out, B.out, Y.out, Z.out, F.out⟩
                case round =>
                  obtain ⟨c, hc, rfl, hR, hS, hB, hY, hZ, hF⟩ := hrel
                  clear R S B Y Z F
                  have R := Lib.hid hR
                  have S := Lib.hid hS
                  have B := Lib.hid hB
                  have Y := Lib.hid hY
                  have Z := Lib.hid hZ
                  have F := Lib.hid hF
                  clear hR hS hB hY hZ hF
                  by_cases hlc : c < 4
                  · have c0 : (0 : Int) ≤ (c : Int) := by omega
                    have c1 : (c : Int) < 4 := by omega
                    go_wp2_with fail
                    go_loopw [14] (fun v14 wx => ∃ r : Nat, r ≤ 4 ∧ v14 = .int .i64 (r : Int) ∧ Blk wx gr ck 74 ∧ Blk wx gt cs 72 ∧ Blk wx gb (byts (overU x v (4 * c + r))).toArray 31 ∧ Blk wx g9 (byts v).toArray 31 ∧ Blk wx g6 z 31 ∧ Fr0 w wx) (fun v14 _ => 4 - (intOf v14).toNat)
                    case atStart => exact ⟨0, by omega, rfl, R.out, S.out, B.out, Y.out, Z.out, F.out⟩
                    case round =>
                      obtain ⟨r, hr, rfl, hR, hS, hB, hY, hZ, hF⟩ := hrel
                      clear R S B Y Z F
                      have R := Lib.hid hR
                      have S := Lib.hid hS
                      have Y := Lib.hid hY
                      have Z := Lib.hid hZ
                      have F := Lib.hid hF
                      by_cases hlr : r < 4
                      · have r0 : (0 : Int) ≤ (r : Int) := by omega
                        have r1 : (r : Int) < 4 := by omega
                        obtain ⟨p0, hp0, l0, w0, w1, b0, b4⟩ := ridx0 c r hlc hlr
                        obtain ⟨m1, p1, hm1, hp1, l1, w2, t1, w5, b1, b5⟩ := ridx c r 1 1 rfl hlc hlr (by decide)
                        obtain ⟨m2, p2, hm2, hp2, l2, w3, t2, w6, b2, b6⟩ := ridx c r 2 2 rfl hlc hlr (by decide)
                        obtain ⟨m3, p3, hm3, hp3, l3, w4, t3, w7, b3, b7⟩ := ridx c r 3 3 rfl hlc hlr (by decide)
                        have hxa := XA.out c r hlc hlr
                        rw [← hm1, ← hm2, ← hm3, ← hp0, ← hp1, ← hp2, ← hp3] at hxa
                        have cy0 := hY.u8 (i := p0) (by rw [VL.out]; exact l0)
                        have cy1 := hY.u8 (i := p1) (by rw [VL.out]; exact l1)
                        have cy2 := hY.u8 (i := p2) (by rw [VL.out]; exact l2)
                        have cy3 := hY.u8 (i := p3) (by rw [VL.out]; exact l3)
                        rw [← hp0] at hB
                        have cb0 := hB.u8 (i := p0) (by rw [overU_len XL.out VL.out (Nat.le_of_lt l0)]; exact l0)
                        have fb0 := hB.free p0
                        have HN := Lib.hid (hB.over XL.out VL.out l0)
                        obtain ⟨t, htt⟩ : ∃ t, t = x.getD p0 0 := ⟨_, rfl⟩
                        obtain ⟨y0, hy0⟩ : ∃ t, t = v.getD p0 0 := ⟨_, rfl⟩
                        obtain ⟨y1, hy1⟩ : ∃ t, t = v.getD p1 0 := ⟨_, rfl⟩
                        obtain ⟨y2, hy2⟩ : ∃ t, t = v.getD p2 0 := ⟨_, rfl⟩
                        obtain ⟨y3, hy3⟩ : ∃ t, t = v.getD p3 0 := ⟨_, rfl⟩
                        rw [← htt] at HN hxa
                        rw [← hy0] at cy0 hxa
                        rw [← hy1] at cy1 hxa
                        rw [← hy2] at cy2 hxa
                        rw [← hy3] at cy3 hxa
                        have HC2 := Lib.hid (fun W => HT2.out y0 W)
                        have HC3 := Lib.hid (fun W => HT3.out y1 W)
                        obtain ⟨u2, hu2⟩ : ∃ t, t = tms 2 y0 := ⟨_, rfl⟩
                        obtain ⟨u3, hu3⟩ : ∃ t, t = tms 3 y1 := ⟨_, rfl⟩
                        rw [← hu2] at HC2 hxa
                        rw [← hu3] at HC3 hxa
                        have x1 := xorU u2 u3
                        have x2 := xorU (u2 ^^^ u3) y2
                        have x3 := xorU (u2 ^^^ u3 ^^^ y2) y3
                        rw [← hxa] at x3
                        obtain ⟨s1, hs1⟩ : ∃ s, s = u2 ^^^ u3 := ⟨_, rfl⟩
                        rw [← hs1] at x1 x2 x3
                        obtain ⟨s2, hs2⟩ : ∃ s, s = s1 ^^^ y2 := ⟨_, rfl⟩
                        rw [← hs2] at x2 x3
                        have HP0 := Lib.hid hp0
                        have FS := Lib.hid (((Fr1.refl gb wr).set p0 (.int .u8 (t.toNat : Int))).drew)
                        clear hR hS hB hY hZ hF htt hy0 hy1 hy2 hy3 hu2 hu3 hs1 hs2 hxa hp0 hp1 hp2 hp3 hm1 hm2 hm3 l0 l1 l2 l3
                        go_wp2_with fail
                        refine wp_region_still_tail 40 (by kernel_rfl) (by kernel_rfl) ?_
                        simp only [List.take_succ_cons, List.take_zero, List.drop_succ_cons, List.drop_zero]
                        iterate 10 still_step
                        still_call (HC2.out _)
                        iterate 8 still_step
                        still_call (HC3.out _)
                        repeat still_step
                        try refine wpStill_nil ?_
                        go_wp2_with fail
                        clear w0 w1 w2 w3 w4 w5 w6 w7 t1 t2 t3 b0 b1 b2 b3 b4 b5 b6 b7 cy0 cy1 cy2 cy3 cb0 fb0 x1 x2 x3
                        go_roundw
                        case rel => exact ⟨r + 1, by omega, by go_num, (R.out).fr1 FS.out nrb, (S.out).fr1 FS.out ntb, by rw [← Nat.add_assoc, ← HP0.out]; exact (HN.out).drew, (Y.out).fr1 FS.out n9b, (Z.out).fr1 FS.out n6b, Fr0.new F.out FS.out LB.out⟩
                        case measure => simp [intOf]; omega
                      · obtain rfl : r = 4 := by omega
                        have B := Lib.hid (show Blk wr gb (byts (overU x v (4 * (c + 1)))).toArray 31 by rw [show 4 * (c + 1) = 4 * c + 4 by omega]; exact hB)
                        clear hR hS hB hY hZ hF
                        go_wp2_with fail
                        go_roundw
                        case rel => exact ⟨c + 1, by omega, by go_num, R.out, S.out, B.out, Y.out, Z.out, F.out⟩
                        case measure => simp [intOf]; omega
                  · obtain rfl : c = 4 := by omega
                    rw [show ((4 : Nat) : Int) = 4 from rfl]
                    have BX := Lib.hid (show Blk wr gb (byts x).toArray 31 by have h := B.out; rw [show 4 * 4 = 16 from rfl, overU_all XL.out VL.out] at h; exact h)
                    have B := Lib.hid (show Blk wr gb (byts (overU e x 0)).toArray 31 from BX.out)
                    clear BX Y
                    go_wp2_with fail
                    go_loopw [15] (fun vi wr => ∃ i : Nat, i ≤ 16 ∧ vi = .int .i64 (i : Int) ∧ Blk wr gr ck 74 ∧ Blk wr gt cs 72 ∧ Blk wr gb (byts (overU e x i)).toArray 31 ∧ Blk wr g6 z 31 ∧ Fr0 w wr) (fun vi _ => 16 - (intOf vi).toNat)
                    case atStart => exact ⟨0, by omega, rfl, R.out, S.out, B.out, Z.out, F.out⟩
                    case round =>
                      obtain ⟨i, hi, rfl, hR, hS, hB, hZ, hF⟩ := hrel
                      clear R S B Z F
                      have R := Lib.hid hR
                      have S := Lib.hid hS
                      have Z := Lib.hid hZ
                      have F := Lib.hid hF
                      by_cases hlt : i < 16
                      · have i0 : (0 : Int) ≤ (i : Int) := by omega
                        have i1 : (i : Int) < 16 := by omega
                        have cb0 := hB.u8 (i := i) (by rw [overU_len EL.out XL.out hi]; exact hlt)
                        rw [overU_at EL.out XL.out hi] at cb0
                        have fb0 := hB.free i
                        have hR' := hR
                        rw [HCK.out] at hR'
                        have cr0 := hR'.u8 (i := (j + 1) * 16 + i) (by rw [HKL.out]; omega)
                        have hv := EB.out i hlt
                        have HN := Lib.hid (hB.over EL.out XL.out hlt)
                        obtain ⟨t, htt⟩ : ∃ t, t = (e).getD i 0 := ⟨_, rfl⟩
                        obtain ⟨x, hxx⟩ : ∃ t, t = (x).getD i 0 := ⟨_, rfl⟩
                        obtain ⟨y, hyy⟩ : ∃ t, t = ks.getD ((j + 1) * 16 + i) 0 := ⟨_, rfl⟩
                        rw [← htt] at HN hv
                        rw [← hxx] at cb0 hv
                        rw [← hyy] at cr0 hv
                        have hx := xorU x y
                        rw [← hv] at hx
                        have FS := Lib.hid (((Fr1.refl gb wr).set i (.int .u8 (t.toNat : Int))).drew)
                        clear hR hR' hS hB hZ hF htt hxx hyy hv
                        go_wp2_with fail
                        go_still_tail 11, (by kernel_rfl)
                        go_wp2_with fail
                        clear cb0 fb0 cr0 hx
                        go_roundw
                        case rel => exact ⟨i + 1, by omega, by go_num, (R.out).fr1 FS.out nrb, (S.out).fr1 FS.out ntb, (HN.out).drew, (Z.out).fr1 FS.out n6b, Fr0.new F.out FS.out LB.out⟩
                        case measure => simp [intOf]; omega
                      · obtain rfl : i = 16 := by omega
                        rw [show ((16 : Nat) : Int) = 16 from rfl]
                        have B := Lib.hid (show Blk wr gb (byts (e)).toArray 31 by rw [overU_all EL.out XL.out] at hB; exact hB)
                        clear hR hS hB hZ hF
                        go_wp2_with fail
                        go_roundw
                        case rel => exact ⟨j + 1, by omega, congrArg (Value.int .i64) (by push_cast; omega), R.out, S.out, by rw [← HE.out]; exact B.out, Z.out, F.out⟩
                        case measure => simp [intOf]; omega
              · have EB := Lib.hid (fun i h => show e.getD i 0 = v.getD i 0 ^^^ ks.getD ((j + 1) * 16 + i) 0 from by have := EA.out i h; rwa [if_neg h10] at this)
                have j2 : (10 : Int) ≤ (j : Int) + 1 := by omega
                have B := Lib.hid (show Blk w10 gb (byts (overU e v 0)).toArray 31 from C.out)
                clear C Y h10
                go_wp2_with fail
                go_loopw [15] (fun vi wr => ∃ i : Nat, i ≤ 16 ∧ vi = .int .i64 (i : Int) ∧ Blk wr gr ck 74 ∧ Blk wr gt cs 72 ∧ Blk wr gb (byts (overU e v i)).toArray 31 ∧ Blk wr g6 z 31 ∧ Fr0 w wr) (fun vi _ => 16 - (intOf vi).toNat)
                case atStart => exact ⟨0, by omega, rfl, R.out, S.out, B.out, Z.out, F.out⟩
                case round =>
                  obtain ⟨i, hi, rfl, hR, hS, hB, hZ, hF⟩ := hrel
                  clear R S B Z F
                  have R := Lib.hid hR
                  have S := Lib.hid hS
                  have Z := Lib.hid hZ
                  have F := Lib.hid hF
                  by_cases hlt : i < 16
                  · have i0 : (0 : Int) ≤ (i : Int) := by omega
                    have i1 : (i : Int) < 16 := by omega
                    have cb0 := hB.u8 (i := i) (by rw [overU_len EL.out VL.out hi]; exact hlt)
                    rw [overU_at EL.out VL.out hi] at cb0
                    have fb0 := hB.free i
                    have hR' := hR
                    rw [HCK.out] at hR'
                    have cr0 := hR'.u8 (i := (j + 1) * 16 + i) (by rw [HKL.out]; omega)
                    have hv := EB.out i hlt
                    have HN := Lib.hid (hB.over EL.out VL.out hlt)
                    obtain ⟨t, htt⟩ : ∃ t, t = (e).getD i 0 := ⟨_, rfl⟩
                    obtain ⟨x, hxx⟩ : ∃ t, t = (v).getD i 0 := ⟨_, rfl⟩
                    obtain ⟨y, hyy⟩ : ∃ t, t = ks.getD ((j + 1) * 16 + i) 0 := ⟨_, rfl⟩
                    rw [← htt] at HN hv
                    rw [← hxx] at cb0 hv
                    rw [← hyy] at cr0 hv
                    have hx := xorU x y
                    rw [← hv] at hx
                    have FS := Lib.hid (((Fr1.refl gb wr).set i (.int .u8 (t.toNat : Int))).drew)
                    clear hR hR' hS hB hZ hF htt hxx hyy hv
                    go_wp2_with fail
                    go_still_tail 11, (by kernel_rfl)
                    go_wp2_with fail
                    clear cb0 fb0 cr0 hx
                    go_roundw
                    case rel => exact ⟨i + 1, by omega, by go_num, (R.out).fr1 FS.out nrb, (S.out).fr1 FS.out ntb, (HN.out).drew, (Z.out).fr1 FS.out n6b, Fr0.new F.out FS.out LB.out⟩
                    case measure => simp [intOf]; omega
                  · obtain rfl : i = 16 := by omega
                    rw [show ((16 : Nat) : Int) = 16 from rfl]
                    have B := Lib.hid (show Blk wr gb (byts (e)).toArray 31 by rw [overU_all EL.out VL.out] at hB; exact hB)
                    clear hR hS hB hZ hF
                    go_wp2_with fail
                    go_roundw
                    case rel => exact ⟨j + 1, by omega, congrArg (Value.int .i64) (by push_cast; omega), R.out, S.out, by rw [← HE.out]; exact B.out, Z.out, F.out⟩
                    case measure => simp [intOf]; omega
        · obtain rfl : j = 10 := by omega
          have R := Lib.hid hR
          have B := Lib.hid hB
          have Z := Lib.hid hZ
          have F := Lib.hid hF
          have HI8 := Lib.hid (HIA.out (D 10) (HDL.out 10))
          have HZ8 := Lib.hid (HZ16.out (D 10) (HDL.out 10))
          have ha8 := byts_all (D 10)
          clear hR hS hB hZ hF
          go_wp2_with (first
            | (refine list_load_blk rfl 31 _ rfl gb rfl 31 (byts (D 10)).toArray B.out _ Try.underlying31 rfl HI8.out ?_)
            | (refine list_store_blk rfl 31 _ _ rfl g6 (byts (D 10)).toArray rfl rfl 31 z Z.out HI8.out HZ8.out ha8 ?_; intro w12 hB hF; have C5 := Lib.hid hB; have F12 := Lib.hid (Fr0.new F.out hF LG6.out); clear hB hF))
          refine bodyPost_ret (v := .agg (byts (D 10)).toArray) (results_cell_row rfl _ _ g6 31 (byts (D 10)).toArray (0, 0) _ rfl C5.out Try.underlying31 rfl HI8.out) rfl ⟨rfl, F12.out⟩
end Go.Proofs.Ytpmindbipclphaa
