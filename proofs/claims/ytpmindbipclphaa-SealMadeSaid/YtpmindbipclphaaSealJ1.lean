/- The reference's block hidden. Conditions stand in the statements. -/
import Derived.Test.YtpmindbipclphaaAesHide
set_option linter.unusedSimpArgs false
set_option linter.unusedVariables false
namespace Go.Proofs.Ytpmindbipclphaa
open Go.RowKit

theorem ksR_key (key : List UInt8) {i k : Nat} (hi : i < 4) (hk : k < 4) : (ksL key).getD (i * 4 + k) 0 = key.getD (4 * i + k) 0 := by
  rw [ksL_at key (by omega), kB, if_pos (by omega), Nat.mul_comm]
theorem ksR_col (key : List UInt8) {i k : Nat} (h4 : 4 ≤ i) (hi : i < 44) (hm : i % 4 = 0) (hk : k < 4) :
    (ksL key).getD (i * 4 + k) 0 = (ksL key).getD ((i - 4) * 4 + k) 0 ^^^ swp ((ksL key).getD ((i - 1) * 4 + (k + 1) % 4) 0) ^^^ (if k = 0 then pwU ((i - 1) / 4) else 0) := by
  rw [ksL_at key (by omega), kB, if_neg (by omega), if_pos (by omega), ksL_low key (by omega) (by omega), ksL_low key (by omega) (by omega), show i * 4 + k - 16 = (i - 4) * 4 + k by omega,
    show (i * 4 + k) / 16 * 16 - 4 + (i * 4 + k + 1) % 4 = (i - 1) * 4 + (k + 1) % 4 by omega, show (i * 4 + k) / 16 - 1 = (i - 1) / 4 by omega, UInt8.xor_assoc]
  by_cases h0 : k = 0
  · rw [if_pos h0, if_pos (by omega)]
  · rw [if_neg h0, if_neg (by omega)]
theorem ksR_rest (key : List UInt8) {i k : Nat} (h4 : 4 ≤ i) (hi : i < 44) (hm : ¬ i % 4 = 0) (hk : k < 4) : (ksL key).getD (i * 4 + k) 0 = (ksL key).getD ((i - 4) * 4 + k) 0 ^^^ (ksL key).getD ((i - 1) * 4 + k) 0 := by
  rw [ksL_at key (by omega), kB, if_neg (by omega), if_neg (by omega), ksL_low key (by omega) (by omega), ksL_low key (by omega) (by omega), show i * 4 + k - 16 = (i - 4) * 4 + k by omega, show i * 4 + k - 4 = (i - 1) * 4 + k by omega]
theorem set_low (T : List UInt8) (p : Nat) (x : UInt8) {j : Nat} (h : j ≠ p) : (T.set p x).getD j 0 = T.getD j 0 := by
  rw [List.getD, List.getD, List.getElem?_set_ne (Ne.symm h)]
theorem set_hit (T : List UInt8) (p : Nat) (x : UInt8) (h : p < T.length) : (T.set p x).getD p 0 = x := by simp [List.getD, h]
theorem fillU_same {T T' : List UInt8} {n p : Nat} (h : T.take p = T'.take p) : fillU T n p = fillU T' n p := by unfold fillU; rw [h]
theorem take_set_le (T : List UInt8) {p q : Nat} (x : UInt8) (h : p ≤ q) : (T.set q x).take p = T.take p := List.take_set_of_le h
theorem fillU_back {T : List UInt8} {n p q : Nat} (x : UInt8) (hT : T.length = n) (hp : q < p) (hpn : p ≤ n) : (fillU (T.set q x) n p).set q (T.getD q 0) = fillU T n p := by
  unfold fillU
  rw [List.set_append_left _ _ (by rw [List.length_take, List.length_set]; omega)]
  congr 1
  rw [List.take_set, List.set_set]
  apply List.ext_getElem (by simp)
  intro i h1 h2
  simp only [List.getElem_set, List.getElem_take]
  split
  · rename_i h; subst h; simp [List.getD, hT, show q < n by omega]
  · rfl
theorem zc_run (W : World) : (Instr.alloc 100 true (.tuple #[])).run Try.prog W = .ok (.pointer (some ⟨W.heap.size, 0, none⟩)) (W.alloc (.cells z176A 100)) := by kernel_rfl
set_option maxHeartbeats 8000000 in
set_option maxRecDepth 100000 in
theorem rrounds_any {key : List UInt8} {w : World} (hk : key.length = 16) : Calls Try.prog 40 #[.agg (byts key).toArray, .agg (byts sbox).toArray] w fun e w' => e = .returned (.agg (byts (ksL key)).toArray) ∧ Fr0 w w' := by
  have TL := Lib.hid (ksL_len key)
  have T1 := Lib.hid (fun i k => ksR_key key (i := i) (k := k))
  have T2 := Lib.hid (fun i k => ksR_col key (i := i) (k := k))
  have T3 := Lib.hid (fun i k => ksR_rest key (i := i) (k := k))
  have HSW := Lib.hid (fun x => show swp x = sbox.getD x.toNat 0 from rfl)
  have HPW := Lib.hid (fun n => show pwU (n + 1) = tms (pwU n) 2 from rfl)
  have HTX := Lib.hid (fun (m : UInt8) W => show Calls Try.prog 56 #[.int .u8 (m.toNat : Int), .int .u8 2] W (fun e w' => e = .returned (.int .u8 ((tms m 2).toNat : Int)) ∧ W = w') from by
    have := rtimes_any m 2 W
    rwa [rtmx] at this)
  have HP0 := Lib.hid (show pwU 0 = 1 from rfl)
  have SL := Lib.hid sbox_len
  have HI := Lib.hid (a176_info TL.out)
  have HZ := Lib.hid (show z176A.size = (byts (ksL key)).toArray.size by rw [byts_size, TL.out]; rfl)
  have ha8 := byts_all (ksL key)
  have HKL := Lib.hid hk
  have K0 := Lib.hid (Blk.new w (byts key).toArray 31)
  have S0 := Lib.hid (show Blk ((w.alloc (.cells (byts key).toArray 31)).alloc (.cells (byts sbox).toArray 72)) (w.heap.size + 1) (byts sbox).toArray 72 by have := Blk.new (w.alloc (.cells (byts key).toArray 31)) (byts sbox).toArray 72; simpa using this)
  have HRUN := Lib.hid (fun W => z176_run W)
  have HRUNC := Lib.hid (fun W => zc_run W)
  obtain ⟨T, hT⟩ : ∃ T, T = ksL key := ⟨_, rfl⟩
  obtain ⟨sb, hsb⟩ : ∃ T, T = sbox := ⟨_, rfl⟩
  obtain ⟨sw, hsw⟩ : ∃ T, T = swp := ⟨_, rfl⟩
  obtain ⟨pw, hpw⟩ : ∃ T, T = pwU := ⟨_, rfl⟩
  obtain ⟨z, hz⟩ : ∃ z, z = z176A := ⟨_, rfl⟩
  obtain ⟨ck, hck⟩ : ∃ c, c = (byts key).toArray := ⟨_, rfl⟩
  obtain ⟨cs, hcs⟩ : ∃ c, c = (byts sbox).toArray := ⟨_, rfl⟩
  rw [← hT] at TL T1 T2 T3 ha8 HI HZ ⊢
  rw [← hsw] at T2 HSW
  rw [← hpw] at T2 HPW HP0
  rw [← hcs] at S0 ⊢
  have HCS := Lib.hid (show cs = (byts sb).toArray by rw [hcs, hsb])
  rw [← hsb] at HSW SL
  have HZZ := Lib.hid (hz.trans (show z176A = (byts (fillU T 176 0)).toArray from rfl))
  rw [← hz] at HRUN HRUNC HZ
  rw [← hck] at K0 S0 ⊢
  have HCK := Lib.hid hck
  clear hT hz hck hk hsb hpw hsw hcs
  go_enter Try.func40, Try.ntmps40
  go_upto_region 4 with (first
    | (have _q := Z4; refine list_alloc_blk rfl 100 rfl z HRUNC.out ?_; intro g5 w5 hB hF hl; have Z5 := Lib.hid hB; have F5 := Lib.hid hF; have L5 := Lib.hid hl; clear hB hF hl)
    | (refine list_alloc_blk rfl 74 rfl z HRUN.out ?_; intro g4 w4 hB hF hl; have Z4 := Lib.hid hB; have FF := Lib.hid hF; have L4 := Lib.hid hl; clear hB hF hl))
  have hl4 := L4.out
  have hl5 := L5.out
  have hz4 := (Z4.out).lt
  have hsz := (FF.out).size
  simp only [World.size_alloc] at hl4 hsz
  have K5 := Lib.hid ((((K0.out).alloc _).fr0 FF.out).fr0 F5.out)
  have S5 := Lib.hid (((S0.out).fr0 FF.out).fr0 F5.out)
  have Z4' := Lib.hid ((Z4.out).fr0 F5.out)
  obtain ⟨gt, hgt⟩ : ∃ g, g = w.heap.size + 1 := ⟨_, rfl⟩
  obtain ⟨gk, hgk⟩ : ∃ g, g = w.heap.size := ⟨_, rfl⟩
  rw [← hgt] at S5
  rw [← hgk] at K5
  rw [← hgt, ← hgk]
  have n45 : g4 ≠ g5 := by omega
  have nk5 : gk ≠ g5 := by omega
  have nt5 : gt ≠ g5 := by omega
  have LG4 := Lib.hid (show w.heap.size ≤ g4 by omega)
  have LG5 := Lib.hid (show w.heap.size ≤ g5 by omega)
  have FW := Lib.hid (show Fr0 w w5 from Fr0.trans (Fr0.trans (((Fr0.refl w).alloc _).alloc _) FF.out) F5.out)
  clear hl4 hl5 hz4 hsz FF F5 Z4 L4 L5 K0 S0 hgt hgk
  go_loopw [6, 7] (fun v6 v7 wr => ∃ i : Nat, i ≤ 44 ∧ v7 = .int .i64 (i : Int) ∧ v6 = .int .u8 ((pw ((i - 1) / 4)).toNat : Int) ∧ Blk wr gk ck 31 ∧ Blk wr gt cs 72 ∧ Blk wr g5 (byts (fillU T 176 (i * 4))).toArray 100 ∧ Blk wr g4 z 74 ∧ Fr0 w wr) (fun _ v7 _ => 44 - (intOf v7).toNat)
  case atStart => exact ⟨0, by omega, rfl, by rw [show (0 - 1) / 4 = 0 from rfl, HP0.out]; rfl, K5.out, S5.out, by have h := Z5.out; rw [HZZ.out] at h; exact h, Z4'.out, FW.out⟩
  case round =>
    obtain ⟨i, hi, rfl, rfl, hK, hS, hT, hZ, hF⟩ := hrel
    clear K5 S5 Z5 Z4' FW
    by_cases hlt : i < 44
    · have i0 : (0 : Int) ≤ (i : Int) := by omega
      have i1 : (i : Int) < 44 := by omega
      by_cases h4 : i < 4
      · have K := Lib.hid hK
        have S := Lib.hid hS
        have C := Lib.hid hT
        have Z := Lib.hid hZ
        have F := Lib.hid hF
        have i4 : (i : Int) < 4 := by omega
        have HPE := Lib.hid (show pw ((i - 1) / 4) = pw ((i + 1 - 1) / 4) by congr 1; omega)
        clear hK hS hT hZ hF
        go_wp2_with fail
        go_loopw [8] (fun v8 wx => ∃ k : Nat, k ≤ 4 ∧ v8 = .int .i64 (k : Int) ∧ Blk wx gk ck 31 ∧ Blk wx gt cs 72 ∧ Blk wx g5 (byts (fillU T 176 (i * 4 + k))).toArray 100 ∧ Blk wx g4 z 74 ∧ Fr0 w wx) (fun v8 _ => 4 - (intOf v8).toNat)
        case atStart => exact ⟨0, by omega, rfl, K.out, S.out, C.out, Z.out, F.out⟩
        case round =>
          obtain ⟨k, hk, rfl, hK, hS, hT, hZ, hF⟩ := hrel
          clear K S C Z F
          have K := Lib.hid hK
          have S := Lib.hid hS
          have C := Lib.hid hT
          have Z := Lib.hid hZ
          have F := Lib.hid hF
          by_cases hlk : k < 4
          · have k0 : (0 : Int) ≤ (k : Int) := by omega
            have k1 : (k : Int) < 4 := by omega
            have hp : i * 4 + k < 176 := by omega
            have c5 := hT.u8 (i := i * 4 + k) (by rw [fillU_len TL.out (by omega)]; exact hp)
            have f5 := hT.free (i * 4 + k)
            have HN := Lib.hid (hT.fill TL.out hp)
            have hK' := hK
            rw [HCK.out] at hK'
            have ck := hK'.u8 (i := 4 * i + k) (by rw [HKL.out]; omega)
            rw [← T1.out i k h4 hlk] at ck
            obtain ⟨t, htt⟩ : ∃ t, t = T.getD (i * 4 + k) 0 := ⟨_, rfl⟩
            rw [← htt] at HN ck
            have q1 : IntKind.i64.wrap (4 * (i : Int)) = 4 * (i : Int) := IntWalk.i64_in _ (by omega)
            have q2 : IntKind.i64.wrap (4 * (i : Int) + (k : Int)) = 4 * (i : Int) + (k : Int) := IntWalk.i64_in _ (by omega)
            have q3 : (4 * (i : Int) + (k : Int)).toNat = 4 * i + k := by omega
            have q4 : (0 : Int) ≤ 4 * (i : Int) + (k : Int) := by omega
            have q5 : 4 * (i : Int) + (k : Int) < 16 := by omega
            have FS := Lib.hid (((Fr1.refl g5 wr).set (i * 4 + k) (.int .u8 (t.toNat : Int))).drew)
            clear hK hS hT hZ hF hK' htt hp
            go_wp2_with fail
            go_still_tail 10, (by kernel_rfl)
            go_wp2_with fail
            clear q1 q2 q3 q4 q5 c5 f5 ck
            go_roundw
            case rel => exact ⟨k + 1, by omega, by go_num, (K.out).fr1 FS.out nk5, (S.out).fr1 FS.out nt5, (HN.out).drew, (Z.out).fr1 FS.out n45, Fr0.new F.out FS.out LG5.out⟩
            case measure => simp [intOf]; omega
          · obtain rfl : k = 4 := by omega
            have HN := Lib.hid (show Blk wr g5 (byts (fillU T 176 ((i + 1) * 4))).toArray 100 by rw [show (i + 1) * 4 = i * 4 + 4 by omega]; exact hT)
            clear hK hS hT hZ hF
            go_wp2_with fail
            go_roundw
            case rel => exact ⟨i + 1, by omega, by go_num, by rw [HPE.out], K.out, S.out, HN.out, Z.out, F.out⟩
            case measure => simp [intOf]; omega
      · have i4 : (4 : Int) ≤ (i : Int) := by omega
        have i4' : ¬ (i : Int) < 4 := by omega
        have q1 : IntKind.i64.wrap ((i : Int) - 4) = (i : Int) - 4 := IntWalk.i64_in _ (by omega)
        have q2 : IntKind.i64.wrap ((i : Int) - 1) = (i : Int) - 1 := IntWalk.i64_in _ (by omega)
        have q3 : ((i : Int) - 4).toNat = i - 4 := by omega
        have q4 : ((i : Int) - 1).toNat = i - 1 := by omega
        have q5 : (0 : Int) ≤ (i : Int) - 4 := by omega
        have q6 : (0 : Int) ≤ (i : Int) - 1 := by omega
        have q7 : (i : Int) - 4 < 44 := by omega
        have q9 : (1 : Int) ≤ (i : Int) := by omega
        have q8 : (i : Int) - 1 < 44 := by omega
        by_cases hm : i % 4 = 0
        · have hmt : (i : Int).tmod 4 = 0 := by rw [Int.tmod_eq_emod_of_nonneg (by omega)]; omega
          have hmm : (i : Int) % 4 = 0 := by omega
          obtain ⟨x0, hx0⟩ : ∃ x, x = T.getD ((i - 4) * 4 + 0) 0 ^^^ sw (T.getD ((i - 1) * 4 + (0 + 1) % 4) 0) := ⟨_, rfl⟩
          obtain ⟨U, hU⟩ : ∃ U, U = T.set (i * 4) x0 := ⟨_, rfl⟩
          have UL := Lib.hid (show U.length = 176 by rw [hU, List.length_set, TL.out])
          have ULO := Lib.hid (fun j (h : j ≠ i * 4) => show U.getD j 0 = T.getD j 0 by rw [hU]; exact set_low T _ x0 h)
          have U0 := Lib.hid (show U.getD (i * 4) 0 = x0 by rw [hU]; exact set_hit T _ _ (by rw [TL.out]; omega))
          have UK := Lib.hid (fun k (hk : k < 4) => show U.getD (i * 4 + k) 0 = T.getD ((i - 4) * 4 + k) 0 ^^^ sw (T.getD ((i - 1) * 4 + (k + 1) % 4) 0) by
            by_cases hk0 : k = 0
            · rw [hk0, Nat.add_zero, U0.out, hx0]
            · rw [ULO.out _ (by omega), T2.out i k (by omega) hlt hm hk, if_neg hk0, UInt8.xor_zero])
          have UB := Lib.hid (show (fillU U 176 (i * 4 + 4)).set (i * 4) (T.getD (i * 4) 0) = fillU T 176 (i * 4 + 4) by rw [hU]; exact fillU_back x0 TL.out (by omega) (by omega))
          have hT' : Blk wr g5 (byts (fillU U 176 (i * 4))).toArray 100 := by
            rw [fillU_same (T := U) (T' := T) (by rw [hU]; exact take_set_le T x0 (Nat.le_refl _))]; exact hT
          have HM0 := Lib.hid (show T.getD (i * 4) 0 = x0 ^^^ pw ((i - 1) / 4) by
            have h := T2.out i 0 (by omega) hlt hm (by omega)
            rw [if_pos rfl, Nat.add_zero, ← hx0] at h
            exact h)
          have K := Lib.hid hK
          have S := Lib.hid hS
          have C := Lib.hid hT'
          have Z := Lib.hid hZ
          have F := Lib.hid hF
          obtain ⟨m, hm1⟩ : ∃ m, m = pw ((i - 1) / 4) := ⟨_, rfl⟩
          rw [← hm1] at HM0 ⊢
          have HMM := Lib.hid (show tms m 2 = pw ((i + 1 - 1) / 4) by rw [hm1, ← HPW.out]; congr 1; omega)
          clear hK hS hT hT' hZ hF hU hx0 hm1
          go_wp2_with fail
          go_loopw [8] (fun v8 wx => ∃ k : Nat, k ≤ 4 ∧ v8 = .int .i64 (k : Int) ∧ Blk wx gk ck 31 ∧ Blk wx gt cs 72 ∧ Blk wx g5 (byts (fillU U 176 (i * 4 + k))).toArray 100 ∧ Blk wx g4 z 74 ∧ Fr0 w wx) (fun v8 _ => 4 - (intOf v8).toNat)
          case atStart => exact ⟨0, by omega, rfl, K.out, S.out, C.out, Z.out, F.out⟩
          case round =>
            obtain ⟨k, hk, rfl, hK, hS, hT, hZ, hF⟩ := hrel
            clear K S C Z F
            have K := Lib.hid hK
            have S := Lib.hid hS
            have Z := Lib.hid hZ
            have F := Lib.hid hF
            by_cases hlk : k < 4
            · have k0 : (0 : Int) ≤ (k : Int) := by omega
              have k1 : (k : Int) < 4 := by omega
              have hp : i * 4 + k < 176 := by omega
              have c5 := hT.u8 (i := i * 4 + k) (by rw [fillU_len UL.out (by omega)]; exact hp)
              have f5 := hT.free (i * 4 + k)
              have HN := Lib.hid (hT.fill UL.out hp)
              obtain ⟨r, hr⟩ : ∃ r, r = (k + 1) % 4 := ⟨_, rfl⟩
              have ca := hT.u8 (i := (i - 4) * 4 + k) (by rw [fillU_len UL.out (by omega)]; omega)
              rw [fillU_low UL.out (by omega) (by omega), ULO.out _ (by omega)] at ca
              have cx := hT.u8 (i := (i - 1) * 4 + r) (by rw [fillU_len UL.out (by omega)]; omega)
              rw [fillU_low UL.out (by omega) (by omega), ULO.out _ (by omega)] at cx
              have h := UK.out k hlk
              rw [← hr, HSW.out] at h
              obtain ⟨t, htt⟩ : ∃ t, t = U.getD (i * 4 + k) 0 := ⟨_, rfl⟩
              obtain ⟨ya, hya⟩ : ∃ t, t = T.getD ((i - 4) * 4 + k) 0 := ⟨_, rfl⟩
              obtain ⟨yx, hyx⟩ : ∃ t, t = T.getD ((i - 1) * 4 + r) 0 := ⟨_, rfl⟩
              rw [← htt] at HN h
              rw [← hya] at ca h
              rw [← hyx] at cx h
              have lx := yx.toNat_lt
              have hS' := hS
              rw [HCS.out] at hS'
              have cs1 := hS'.u8 (i := yx.toNat) (by rw [SL.out]; exact lx)
              obtain ⟨ys, hys⟩ : ∃ t, t = sb.getD yx.toNat 0 := ⟨_, rfl⟩
              rw [← hys] at cs1 h
              have hx := xorU ya ys
              rw [← h] at hx
              have e1 : IntKind.i64.wrap ((k : Int) + 1) = (k : Int) + 1 := IntWalk.i64_in _ (by omega)
              have e2 : ((k : Int) + 1).tmod 4 = (r : Int) := by rw [Int.tmod_eq_emod_of_nonneg (by omega)]; omega
              have e2' : ((k : Int) + 1) % 4 = (r : Int) := by omega
              have e3 : (r : Int) < 4 := by omega
              have e4 : (0 : Int) ≤ (r : Int) := by omega
              have e5 : (yx.toNat : Int) < 256 := by omega
              have FS := Lib.hid (((Fr1.refl g5 wr).set (i * 4 + k) (.int .u8 (t.toNat : Int))).drew)
              clear hK hS hS' hT hZ hF htt hp hr hya hyx hys h lx
              go_wp2_with fail
              go_still_tail 21, (by kernel_rfl)
              go_wp2_with fail
              clear e1 e2 e2' e3 e4 e5 c5 f5 ca cx cs1 hx
              go_roundw
              case rel => exact ⟨k + 1, by omega, by go_num, (K.out).fr1 FS.out nk5, (S.out).fr1 FS.out nt5, (HN.out).drew, (Z.out).fr1 FS.out n45, Fr0.new F.out FS.out LG5.out⟩
              case measure => simp [intOf]; omega
            · obtain rfl : k = 4 := by omega
              have c5 := hT.u8 (i := i * 4) (by rw [fillU_len UL.out (by omega)]; omega)
              rw [fillU_low UL.out (by omega) (by omega), U0.out] at c5
              have f5 := hT.free (i * 4)
              have hx := xorU x0 m
              rw [← HM0.out] at hx
              have HN := Lib.hid (hT.put8 (i * 4) (T.getD (i * 4) 0))
              rw [UB.out] at HN
              have HT2 := Lib.hid (fun W => HTX.out m W)
              rw [HMM.out] at HT2
              obtain ⟨t, htt⟩ : ∃ t, t = T.getD (i * 4) 0 := ⟨_, rfl⟩
              rw [← htt] at hx HN
              have FS := Lib.hid (((Fr1.refl g5 wr).set (i * 4) (.int .u8 (t.toNat : Int))).drew)
              have HNN := Lib.hid (show Blk ((wr.setCell ⟨g5, i * 4, none⟩ (.int .u8 (t.toNat : Int))).drew) g5 (byts (fillU T 176 ((i + 1) * 4))).toArray 100 by rw [show (i + 1) * 4 = i * 4 + 4 by omega]; exact (HN.out).drew)
              clear hK hS hT hZ hF htt
              go_upto_region 15 with (fail)
              go_still_tail 9, (by kernel_rfl)
              go_wp2_with (go_at_call 56; refine (HT2.out _).mono ?_; rintro e w' ⟨rfl, rfl⟩)
              go_roundw
              case rel => exact ⟨i + 1, by omega, by go_num, rfl, (K.out).fr1 FS.out nk5, (S.out).fr1 FS.out nt5, HNN.out, (Z.out).fr1 FS.out n45, Fr0.new F.out FS.out LG5.out⟩
              case measure => simp [intOf]; omega
        · obtain ⟨im, him⟩ : ∃ r, r = i % 4 := ⟨_, rfl⟩
          have hmt : (i : Int).tmod 4 = (im : Int) := by rw [Int.tmod_eq_emod_of_nonneg (by omega)]; omega
          have hmm : (i : Int) % 4 = (im : Int) := by omega
          have hm0 : ((im : Int) == 0) = false := by simp; omega
          have hm1 : ¬ (im : Int) = 0 := by omega
          have K := Lib.hid hK
          have S := Lib.hid hS
          have C := Lib.hid hT
          have Z := Lib.hid hZ
          have F := Lib.hid hF
          have HPE := Lib.hid (show pw ((i - 1) / 4) = pw ((i + 1 - 1) / 4) by congr 1; omega)
          have HIM := Lib.hid hm
          clear hK hS hT hZ hF him hm
          go_wp2_with fail
          go_loopw [8] (fun v8 wx => ∃ k : Nat, k ≤ 4 ∧ v8 = .int .i64 (k : Int) ∧ Blk wx gk ck 31 ∧ Blk wx gt cs 72 ∧ Blk wx g5 (byts (fillU T 176 (i * 4 + k))).toArray 100 ∧ Blk wx g4 z 74 ∧ Fr0 w wx) (fun v8 _ => 4 - (intOf v8).toNat)
          case atStart => exact ⟨0, by omega, rfl, K.out, S.out, C.out, Z.out, F.out⟩
          case round =>
            obtain ⟨k, hk, rfl, hK, hS, hT, hZ, hF⟩ := hrel
            clear K S C Z F
            have K := Lib.hid hK
            have S := Lib.hid hS
            have Z := Lib.hid hZ
            have F := Lib.hid hF
            by_cases hlk : k < 4
            · have k0 : (0 : Int) ≤ (k : Int) := by omega
              have k1 : (k : Int) < 4 := by omega
              have hp : i * 4 + k < 176 := by omega
              have c5 := hT.u8 (i := i * 4 + k) (by rw [fillU_len TL.out (by omega)]; exact hp)
              have f5 := hT.free (i * 4 + k)
              have HN := Lib.hid (hT.fill TL.out hp)
              have ca := hT.u8 (i := (i - 4) * 4 + k) (by rw [fillU_len TL.out (by omega)]; omega)
              rw [fillU_low TL.out (by omega) (by omega)] at ca
              have cx := hT.u8 (i := (i - 1) * 4 + k) (by rw [fillU_len TL.out (by omega)]; omega)
              rw [fillU_low TL.out (by omega) (by omega)] at cx
              have h := T3.out i k (by omega) hlt HIM.out hlk
              obtain ⟨t, htt⟩ : ∃ t, t = T.getD (i * 4 + k) 0 := ⟨_, rfl⟩
              obtain ⟨ya, hya⟩ : ∃ t, t = T.getD ((i - 4) * 4 + k) 0 := ⟨_, rfl⟩
              obtain ⟨yx, hyx⟩ : ∃ t, t = T.getD ((i - 1) * 4 + k) 0 := ⟨_, rfl⟩
              rw [← htt] at HN h
              rw [← hya] at ca h
              rw [← hyx] at cx h
              have hx := xorU ya yx
              rw [← h] at hx
              have FS := Lib.hid (((Fr1.refl g5 wr).set (i * 4 + k) (.int .u8 (t.toNat : Int))).drew)
              clear hK hS hT hZ hF htt hp hya hyx h
              go_wp2_with fail
              go_still_tail 17, (by kernel_rfl)
              go_wp2_with fail
              clear c5 f5 ca cx hx
              go_roundw
              case rel => exact ⟨k + 1, by omega, by go_num, (K.out).fr1 FS.out nk5, (S.out).fr1 FS.out nt5, (HN.out).drew, (Z.out).fr1 FS.out n45, Fr0.new F.out FS.out LG5.out⟩
              case measure => simp [intOf]; omega
            · obtain rfl : k = 4 := by omega
              have HN := Lib.hid (show Blk wr g5 (byts (fillU T 176 ((i + 1) * 4))).toArray 100 by rw [show (i + 1) * 4 = i * 4 + 4 by omega]; exact hT)
              clear hK hS hT hZ hF
              go_wp2_with fail
              go_roundw
              case rel => exact ⟨i + 1, by omega, by go_num, by rw [HPE.out], K.out, S.out, HN.out, Z.out, F.out⟩
              case measure => simp [intOf]; omega
    · obtain rfl : i = 44 := by omega
      have C := Lib.hid (show Blk wr g5 (byts T).toArray 100 by rw [show 44 * 4 = 176 from rfl, fillU_all TL.out] at hT; exact hT)
      have Z := Lib.hid hZ
      have F := Lib.hid hF
      clear hK hS hT hZ hF
      go_upto_region 19 with (refine list_alloc_blk rfl 74 rfl z HRUN.out ?_; intro g9 w9 hB hF hl; have Z9 := Lib.hid hB; have F9 := Lib.hid hF; have L9 := Lib.hid hl; clear hB hF hl)
      have C9 := Lib.hid ((C.out).fr0 F9.out)
      have Z49 := Lib.hid ((Z.out).fr0 F9.out)
      have HF9 := Lib.hid (Fr0.trans F.out F9.out)
      have l9 := L9.out
      have l5 := (C.out).lt
      have l4 := (Z.out).lt
      have sz := (F.out).size
      have n59 : g5 ≠ g9 := by omega
      have n49 : g4 ≠ g9 := by omega
      have LG9 := Lib.hid (show w.heap.size ≤ g9 by omega)
      clear l9 l5 l4 sz C Z F F9 L9
      go_loopw [10] (fun v10 wx => ∃ n : Nat, n ≤ 176 ∧ v10 = .int .i64 (n : Int) ∧ Blk wx g5 (byts T).toArray 100 ∧ Blk wx g9 (byts (fillU T 176 n)).toArray 74 ∧ Blk wx g4 z 74 ∧ Fr0 w wx) (fun v10 _ => 176 - (intOf v10).toNat)
      case atStart => exact ⟨0, by omega, rfl, C9.out, by have h := Z9.out; rw [HZZ.out] at h; exact h, Z49.out, HF9.out⟩
      case round =>
        obtain ⟨n, hn, rfl, hC, hN, hZ, hF⟩ := hrel
        clear C9 Z9 Z49 HF9
        have C := Lib.hid hC
        have Z := Lib.hid hZ
        have F := Lib.hid hF
        by_cases hlt : n < 176
        · obtain ⟨a, ha⟩ : ∃ a, a = n / 16 := ⟨_, rfl⟩
          obtain ⟨b, hb⟩ : ∃ a, a = n % 16 := ⟨_, rfl⟩
          obtain ⟨c, hc⟩ : ∃ a, a = n / 4 := ⟨_, rfl⟩
          obtain ⟨d, hd⟩ : ∃ a, a = n % 4 := ⟨_, rfl⟩
          have hab : a * 16 + b = n := by omega
          have hcd : c * 4 + d = n := by omega
          have c9 := hN.u8 (i := a * 16 + b) (by rw [fillU_len TL.out (by omega)]; omega)
          have f9 := hN.free (a * 16 + b)
          have HN := Lib.hid (show Blk (wr.setCell ⟨g9, a * 16 + b, none⟩ (.int .u8 ((T.getD n 0).toNat : Int))) g9 (byts (fillU T 176 (n + 1))).toArray 74 by rw [hab]; exact hN.fill TL.out hlt)
          have c5' : wr.cell? ⟨g5, c * 4 + d, none⟩ = some (.int .u8 ((T.getD n 0).toNat : Int)) := by rw [hcd]; exact hC.u8 (i := n) (by rw [TL.out]; omega)
          obtain ⟨t, htt⟩ : ∃ t, t = T.getD n 0 := ⟨_, rfl⟩
          rw [← htt] at HN c5'
          have q1 : (n : Int).tdiv 16 = (a : Int) := by rw [Int.tdiv_eq_ediv_of_nonneg (by omega)]; omega
          have q2 : (n : Int).tmod 16 = (b : Int) := by rw [Int.tmod_eq_emod_of_nonneg (by omega)]; omega
          have q3 : (n : Int).tdiv 4 = (c : Int) := by rw [Int.tdiv_eq_ediv_of_nonneg (by omega)]; omega
          have q4 : (n : Int).tmod 4 = (d : Int) := by rw [Int.tmod_eq_emod_of_nonneg (by omega)]; omega
          have q1' : (n : Int) / 16 = (a : Int) := by omega
          have q2' : (n : Int) % 16 = (b : Int) := by omega
          have q3' : (n : Int) / 4 = (c : Int) := by omega
          have q4' : (n : Int) % 4 = (d : Int) := by omega
          have w1 : IntKind.i64.wrap (a : Int) = (a : Int) := IntWalk.i64_in _ (by omega)
          have w3 : IntKind.i64.wrap (c : Int) = (c : Int) := IntWalk.i64_in _ (by omega)
          have b1 : (0 : Int) ≤ (a : Int) := by omega
          have b2 : (0 : Int) ≤ (b : Int) := by omega
          have b3 : (0 : Int) ≤ (c : Int) := by omega
          have b4 : (0 : Int) ≤ (d : Int) := by omega
          have b5 : (a : Int) < 11 := by omega
          have b6 : (b : Int) < 16 := by omega
          have b7 : (c : Int) < 44 := by omega
          have b8 : (d : Int) < 4 := by omega
          have FS := Lib.hid (((Fr1.refl g9 wr).set (a * 16 + b) (.int .u8 (t.toNat : Int))).drew)
          clear hC hN hZ hF htt ha hb hc hd hab hcd
          go_wp2_with fail
          go_still_tail 13, (by kernel_rfl)
          go_wp2_with fail
          clear q1 q2 q3 q4 q1' q2' q3' q4' w1 w3 c9 f9 c5'
          go_roundw
          case rel => exact ⟨n + 1, by omega, by go_num, (C.out).fr1 FS.out n59, (HN.out).drew, (Z.out).fr1 FS.out n49, Fr0.new F.out FS.out LG9.out⟩
          case measure => simp [intOf]; omega
        · obtain rfl : n = 176 := by omega
          rw [fillU_all TL.out] at hN
          have N := Lib.hid hN
          clear hC hN hZ hF
          go_wp2_with (first
            | (refine list_load_blk rfl 74 _ rfl g9 rfl 74 (byts T).toArray N.out _ Try.underlying74 rfl HI.out ?_)
            | (refine list_store_blk rfl 74 _ _ rfl g4 (byts T).toArray rfl rfl 74 z Z.out HI.out HZ.out ha8 ?_; intro w12 hB hF; have C5 := Lib.hid hB; have F12 := Lib.hid (Fr0.new F.out hF LG4.out); clear hB hF))
          refine bodyPost_ret (v := .agg (byts T).toArray) (results_cell_row rfl _ _ g4 74 (byts T).toArray (0, 0) _ rfl C5.out Try.underlying74 rfl HI.out) rfl ⟨rfl, F12.out⟩
end Go.Proofs.Ytpmindbipclphaa
set_option linter.unusedSimpArgs false
set_option linter.unusedVariables false
namespace Go.Proofs.Ytpmindbipclphaa
open Go.RowKit

theorem rtimes_still (a b : UInt8) (W : World) : Calls Try.prog 56 #[.int .u8 (a.toNat : Int), .int .u8 (b.toNat : Int)] W fun e w' => e = .returned (.int .u8 ((rtm a b).toNat : Int)) ∧ w' = W := (rtimes_any a b W).mono fun _ _ h => ⟨h.1, h.2.symm⟩
theorem mvL_at (b : List UInt8) {i : Nat} (h : i < 16) : (mvL b).getD i 0 = swp (b.getD (4 * ((i / 4 + i % 4) % 4) + i % 4) 0) := by
  unfold mvL
  rw [map16_at _ h, show (i + 4 * (i % 4)) % 16 = 4 * ((i / 4 + i % 4) % 4) + i % 4 by omega]
theorem mxL_at (b : List UInt8) {c r : Nat} (hc : c < 4) (hr : r < 4) : (mxL b).getD (4 * c + r) 0 = tms 2 (b.getD (4 * c + r) 0) ^^^ tms 3 (b.getD (4 * c + (r + 1) % 4) 0) ^^^ b.getD (4 * c + (r + 2) % 4) 0 ^^^ b.getD (4 * c + (r + 3) % 4) 0 := by
  unfold mxL
  rw [map16_at _ (by omega), mxB, show (4 * c + r) / 4 * 4 + (4 * c + r) % 4 = 4 * c + r by omega, show (4 * c + r) / 4 * 4 + (4 * c + r + 1) % 4 = 4 * c + (r + 1) % 4 by omega, show (4 * c + r) / 4 * 4 + (4 * c + r + 2) % 4 = 4 * c + (r + 2) % 4 by omega,
    show (4 * c + r) / 4 * 4 + (4 * c + r + 3) % 4 = 4 * c + (r + 3) % 4 by omega]
theorem adL_at (b r : List UInt8) {i : Nat} (h : i < 16) : (adL b r).getD i 0 = b.getD i 0 ^^^ r.getD i 0 := map16_at _ h
theorem ridx (c r k : Nat) (K : Int) (hK : K = (k : Int)) (hc : c < 4) (hr : r < 4) (hk : k ≤ 3) : ∃ m p : Nat, m = (r + k) % 4 ∧ p = 4 * c + m ∧ p < 16 ∧ IntKind.i64.wrap ((r : Int) + K) = (r : Int) + K ∧ ((r : Int) + K).tmod 4 = (m : Int) ∧ IntKind.i64.wrap (4 * (c : Int) + (m : Int)) = (p : Int) ∧ (p : Int) < 16 ∧ (0 : Int) ≤ (p : Int) :=
  ⟨(r + k) % 4, 4 * c + (r + k) % 4, rfl, rfl, by omega, IntWalk.i64_in _ (by omega), by rw [Int.tmod_eq_emod_of_nonneg (by omega)]; omega, by rw [IntWalk.i64_in _ (by omega)]; omega, by omega, by omega⟩
theorem ridx0 (c r : Nat) (hc : c < 4) (hr : r < 4) : ∃ p : Nat, p = 4 * c + r ∧ p < 16 ∧ IntKind.i64.wrap (4 * (c : Int)) = 4 * (c : Int) ∧ IntKind.i64.wrap (4 * (c : Int) + (r : Int)) = (p : Int) ∧ (p : Int) < 16 ∧ (0 : Int) ≤ (p : Int) :=
  ⟨4 * c + r, rfl, by omega, IntWalk.i64_in _ (by omega), by rw [IntWalk.i64_in _ (by omega)]; omega, by omega, by omega⟩
set_option maxHeartbeats 8000000 in
set_option maxRecDepth 100000 in
theorem rhide_any {ks b : List UInt8} {w : World} (hk : ks.length = 176) (hb : b.length = 16) : Calls Try.prog 57 #[.agg (byts ks).toArray, .agg (byts sbox).toArray, .agg (byts b).toArray] w fun e w' => e = .returned (.agg (byts (hdS ks b 10)).toArray) ∧ Fr0 w w' := by
  have HKL := Lib.hid hk
  have HBL := Lib.hid hb
  have HD0 := Lib.hid (fun i (h : i < 16) => show (hdS ks b 0).getD i 0 = b.getD i 0 ^^^ ks.getD (0 * 16 + i) 0 from by rw [show hdS ks b 0 = adL b (rkL ks 0) from rfl, adL_at _ _ h, rkL_at h])
  have HDS := Lib.hid (fun j i (h : i < 16) => show (hdS ks b (j + 1)).getD i 0 = (if j + 1 < 10 then mxL (mvL (hdS ks b j)) else mvL (hdS ks b j)).getD i 0 ^^^ ks.getD ((j + 1) * 16 + i) 0 from by
    rw [show hdS ks b (j + 1) = adL (if j + 1 < 10 then mxL (mvL (hdS ks b j)) else mvL (hdS ks b j)) (rkL ks (j + 1)) from rfl, adL_at _ _ h, rkL_at h, Nat.mul_comm])
  have HDL := Lib.hid (hdS_len ks b)
  have HMV := Lib.hid (fun d i (h : i < 16) => mvL_at d h)
  have HMX := Lib.hid (fun d c r (h1 : c < 4) (h2 : r < 4) => mxL_at d h1 h2)
  have HVL := Lib.hid (fun d => show (mvL d).length = 16 from map16_len _)
  have HXL := Lib.hid (fun d => show (mxL d).length = 16 from map16_len _)
  have HSW := Lib.hid (fun x => show swp x = sbox.getD x.toNat 0 from rfl)
  have HT2 := Lib.hid (fun (y : UInt8) W => show Calls Try.prog 56 #[.int .u8 2, .int .u8 (y.toNat : Int)] W (fun e w' => e = .returned (.int .u8 ((tms 2 y).toNat : Int)) ∧ w' = W) from by
    have := rtimes_still 2 y W
    rwa [rtm2] at this)
  have HT3 := Lib.hid (fun (y : UInt8) W => show Calls Try.prog 56 #[.int .u8 3, .int .u8 (y.toNat : Int)] W (fun e w' => e = .returned (.int .u8 ((tms 3 y).toNat : Int)) ∧ w' = W) from by
    have := rtimes_still 3 y W
    rwa [rtm3] at this)
  have SL := Lib.hid sbox_len
  have HIA := Lib.hid (fun (d : List UInt8) (h : d.length = 16) => a16_info h)
  have HZ16 := Lib.hid (fun (d : List UInt8) (h : d.length = 16) => z16_size h)
  have HSZ := Lib.hid (fun (d e : List UInt8) (h : d.length = 16) (h2 : e.length = 16) => show (byts d).toArray.size = (byts e).toArray.size by rw [byts_size, byts_size, h, h2])
  obtain ⟨wa, hwa⟩ : ∃ W, W = ((w.alloc (.cells (byts ks).toArray 74)).alloc (.cells (byts sbox).toArray 72)).alloc (.cells (byts b).toArray 31) := ⟨_, rfl⟩
  have FA := Lib.hid (show Fr0 w wa by rw [hwa]; exact (((Fr0.refl w).alloc _).alloc _).alloc _)
  have R0 := Lib.hid (show Blk wa w.heap.size (byts ks).toArray 74 by rw [hwa]; exact ((Blk.new w _ 74).alloc _).alloc _)
  have S0 := Lib.hid (show Blk wa (w.heap.size + 1) (byts sbox).toArray 72 by rw [hwa]; have := (Blk.new (w.alloc (.cells (byts ks).toArray 74)) (byts sbox).toArray 72).alloc (.cells (byts b).toArray 31); simpa using this)
  have B0 := Lib.hid (show Blk wa (w.heap.size + 2) (byts b).toArray 31 by rw [hwa]; have := Blk.new ((w.alloc (.cells (byts ks).toArray 74)).alloc (.cells (byts sbox).toArray 72)) (byts b).toArray 31; simpa using this)
  have HRUN := Lib.hid (fun W => z16_run W)
  have has := Lib.hid (show wa.heap.size = w.heap.size + 3 by rw [hwa]; simp)
  obtain ⟨D, hD⟩ : ∃ T, T = hdS ks b := ⟨_, rfl⟩
  obtain ⟨sb, hsb⟩ : ∃ T, T = sbox := ⟨_, rfl⟩
  obtain ⟨sw, hsw⟩ : ∃ T, T = swp := ⟨_, rfl⟩
  obtain ⟨z, hz⟩ : ∃ z, z = z16A := ⟨_, rfl⟩
  obtain ⟨ck, hck⟩ : ∃ c, c = (byts ks).toArray := ⟨_, rfl⟩
  obtain ⟨cs, hcs⟩ : ∃ c, c = (byts sbox).toArray := ⟨_, rfl⟩
  obtain ⟨cb, hcb⟩ : ∃ c, c = (byts b).toArray := ⟨_, rfl⟩
  rw [← hD] at HD0 HDS HDL ⊢
  rw [← hsw] at HMV HSW
  rw [← hcs] at S0 hwa ⊢
  have HCS := Lib.hid (show cs = (byts sb).toArray by rw [hcs, hsb])
  rw [← hsb] at HSW SL
  have HZZ := Lib.hid (fun T => hz.trans (show z16A = (byts (fillU T 16 0)).toArray from rfl))
  rw [← hz] at HRUN HZ16
  rw [← hck] at R0 hwa ⊢
  rw [← hcb] at B0 hwa ⊢
  have HCK := Lib.hid hck
  have HCB := Lib.hid hcb
  clear hz hck hcs hcb hk hb hsb hsw hD
  go_enter Try.func57, Try.ntmps57
  go_upto_region 2 with (refine list_alloc_blk rfl 31 rfl z HRUN.out ?_; intro g6 w6 hB hF hl; rw [← hwa] at hF hl; have Z6 := Lib.hid hB; have F6 := Lib.hid hF; have L6 := Lib.hid hl; clear hB hF hl)
  clear hwa
  have R6 := Lib.hid ((R0.out).fr0 F6.out)
  have S6 := Lib.hid ((S0.out).fr0 F6.out)
  have B6 := Lib.hid ((B0.out).fr0 F6.out)
  have G6 := Lib.hid (Fr0.trans FA.out F6.out)
  have l6 := L6.out
  have ls := has.out
  obtain ⟨gb, hgb⟩ : ∃ g, g = w.heap.size + 2 := ⟨_, rfl⟩
  obtain ⟨gt, hgt⟩ : ∃ g, g = w.heap.size + 1 := ⟨_, rfl⟩
  obtain ⟨gr, hgr⟩ : ∃ g, g = w.heap.size := ⟨_, rfl⟩
  rw [← hgb] at B6
  rw [← hgt] at S6
  rw [← hgr] at R6
  rw [← hgb, ← hgt, ← hgr]
  have nrb : gr ≠ gb := by omega
  have ntb : gt ≠ gb := by omega
  have n6b : g6 ≠ gb := by omega
  have LB := Lib.hid (show w.heap.size ≤ gb by omega)
  have LG6 := Lib.hid (show w.heap.size ≤ g6 by omega)
  have HGB := Lib.hid (show gr < g6 ∧ gt < g6 ∧ gb < g6 by omega)
  clear hgb hgt hgr l6 ls F6 L6 R0 S0 B0 FA has
  have R := R6
  have S := S6
  have Z := Z6
  have F := G6
  have B := Lib.hid (show Blk w6 gb (byts (overU (D 0) b 0)).toArray 31 by have h := B6.out; rw [HCB.out] at h; exact h)
  clear R6 S6 Z6 G6 B6
  have D0L := Lib.hid (HDL.out 0)
  go_loopw [7] (fun vi wr => ∃ i : Nat, i ≤ 16 ∧ vi = .int .i64 (i : Int) ∧ Blk wr gr ck 74 ∧ Blk wr gt cs 72 ∧ Blk wr gb (byts (overU (D 0) b i)).toArray 31 ∧ Blk wr g6 z 31 ∧ Fr0 w wr) (fun vi _ => 16 - (intOf vi).toNat)
  case atStart => exact ⟨0, by omega, rfl, R.out, S.out, B.out, Z.out, F.out⟩
  case round =>
    obtain ⟨i, hi, rfl, hR, hS, hB, hZ, hF⟩ := hrel
    clear R S B Z F
    have R := Lib.hid hR
    have S := Lib.hid hS
    have Z := Lib.hid hZ
    have F := Lib.hid hF
    by_cases hlt : i < 16
    · have i0 : (0 : Int) ≤ (i : Int) := by omega
      have i1 : (i : Int) < 16 := by omega
      have cb0 := hB.u8 (i := i) (by rw [overU_len D0L.out HBL.out hi]; exact hlt)
      rw [overU_at D0L.out HBL.out hi] at cb0
      have fb0 := hB.free i
      have hR' := hR
      rw [HCK.out] at hR'
      have cr0 := hR'.u8 (i := 0 * 16 + i) (by rw [HKL.out]; omega)
      have hv := HD0.out i hlt
      have HN := Lib.hid (hB.over D0L.out HBL.out hlt)
      obtain ⟨t, htt⟩ : ∃ t, t = ((D 0)).getD i 0 := ⟨_, rfl⟩
      obtain ⟨x, hxx⟩ : ∃ t, t = (b).getD i 0 := ⟨_, rfl⟩
      obtain ⟨y, hyy⟩ : ∃ t, t = ks.getD (0 * 16 + i) 0 := ⟨_, rfl⟩
      rw [← htt] at HN hv
      rw [← hxx] at cb0 hv
      rw [← hyy] at cr0 hv
      have hx := xorU x y
      rw [← hv] at hx
      rw [show 0 * 16 + i = i by omega] at cr0
      have FS := Lib.hid (((Fr1.refl gb wr).set i (.int .u8 (t.toNat : Int))).drew)
      clear hR hR' hS hB hZ hF htt hxx hyy hv
      go_wp2_with fail
      go_still_tail 10, (by kernel_rfl)
      go_wp2_with fail
      clear cb0 fb0 cr0 hx
      go_roundw
      case rel => exact ⟨i + 1, by omega, by go_num, (R.out).fr1 FS.out nrb, (S.out).fr1 FS.out ntb, (HN.out).drew, (Z.out).fr1 FS.out n6b, Fr0.new F.out FS.out LB.out⟩
      case measure => simp [intOf]; omega
    · obtain rfl : i = 16 := by omega
      rw [show ((16 : Nat) : Int) = 16 from rfl]
      have B := Lib.hid (show Blk wr gb (byts ((D 0))).toArray 31 by rw [overU_all D0L.out HBL.out] at hB; exact hB)
      clear hR hS hB hZ hF
      have D0 := B
      go_wp2_with fail
      go_loopw [8] (fun vj wr => ∃ j : Nat, j ≤ 10 ∧ vj = .int .i64 ((j : Int) + 1) ∧ Blk wr gr ck 74 ∧ Blk wr gt cs 72 ∧ Blk wr gb (byts (D j)).toArray 31 ∧ Blk wr g6 z 31 ∧ Fr0 w wr) (fun vj _ => 11 - (intOf vj).toNat)
      case atStart => exact ⟨0, by omega, rfl, R.out, S.out, D0.out, Z.out, F.out⟩
      case round =>
        obtain ⟨j, hj, rfl, hR, hS, hB, hZ, hF⟩ := hrel
        clear R S B Z F D0
        by_cases hlt : j < 10
        · have j0 : (0 : Int) ≤ (j : Int) + 1 := by omega
          have j1 : (j : Int) + 1 ≤ 10 := by omega
          have j1' : (j : Int) + 1 < 11 := by omega
          have j9 : ((j : Int) + 1).toNat = j + 1 := by omega
          have DL := Lib.hid (HDL.out j)
          have EL := Lib.hid (HDL.out (j + 1))
          have VA := Lib.hid (fun i h => HMV.out (D j) i h)
          have VL := Lib.hid (HVL.out (D j))
          have XA := Lib.hid (fun c r h1 h2 => HMX.out (mvL (D j)) c r h1 h2)
          have XL := Lib.hid (HXL.out (mvL (D j)))
          have EA := Lib.hid (fun i h => HDS.out j i h)
          obtain ⟨d, hd⟩ : ∃ d, d = D j := ⟨_, rfl⟩
          obtain ⟨e, he⟩ : ∃ d, d = D (j + 1) := ⟨_, rfl⟩
          obtain ⟨v, hv⟩ : ∃ d, d = mvL (D j) := ⟨_, rfl⟩
          obtain ⟨x, hx⟩ : ∃ d, d = mxL (mvL (D j)) := ⟨_, rfl⟩
          rw [← hx] at XA XL EA
          rw [← hv] at VA VL XA EA
          rw [← hd] at DL VA hB
          rw [← he] at EL EA
          have HE := Lib.hid he
          have R := Lib.hid hR
          have S := Lib.hid hS
          have B := Lib.hid hB
          have Z := Lib.hid hZ
          have F := Lib.hid hF
          clear hR hS hB hZ hF hd he hv hx
          go_upto_region 10 with (refine list_alloc_blk rfl 31 rfl z HRUN.out ?_; intro g9 w9 hB hF hl; have Y := Lib.hid (show Blk w9 g9 (byts (fillU v 16 0)).toArray 31 by rw [HZZ.out v] at hB; exact hB); have F9 := Lib.hid hF; have L9 := Lib.hid hl; clear hB hF hl)
          have l9 := L9.out
          have lb := (Z.out).lt
          have hg := HGB.out
          have lz := (F.out).size
          have nr9 : gr ≠ g9 := by omega
          have nt9 : gt ≠ g9 := by omega
          have nb9 : gb ≠ g9 := by omega
          have n9b : g9 ≠ gb := by omega
          have n69 : g6 ≠ g9 := by omega
          have LG9 := Lib.hid (show w.heap.size ≤ g9 by omega)
          have R := Lib.hid ((R.out).fr0 F9.out)
          have S := Lib.hid ((S.out).fr0 F9.out)
          have B := Lib.hid ((B.out).fr0 F9.out)
          have Z := Lib.hid ((Z.out).fr0 F9.out)
          have F := Lib.hid (Fr0.trans F.out F9.out)
          clear l9 lb hg lz L9 F9
          go_loopw [10] (fun v10 wx => ∃ i : Nat, i ≤ 16 ∧ v10 = .int .i64 (i : Int) ∧ Blk wx gr ck 74 ∧ Blk wx gt cs 72 ∧ Blk wx gb (byts d).toArray 31 ∧ Blk wx g9 (byts (fillU v 16 i)).toArray 31 ∧ Blk wx g6 z 31 ∧ Fr0 w wx) (fun v10 _ => 16 - (intOf v10).toNat)
          case atStart => exact ⟨0, by omega, rfl, R.out, S.out, B.out, Y.out, Z.out, F.out⟩
          case round =>
            obtain ⟨i, hi, rfl, hR, hS, hB, hY, hZ, hF⟩ := hrel
            clear R S B Y Z F
            have R := Lib.hid hR
            have S := Lib.hid hS
            have B := Lib.hid hB
            have Z := Lib.hid hZ
            have F := Lib.hid hF
            by_cases hl16 : i < 16
            · have i0 : (0 : Int) ≤ (i : Int) := by omega
              have i1 : (i : Int) < 16 := by omega
              obtain ⟨row, hrow⟩ : ∃ a, a = i % 4 := ⟨_, rfl⟩
              obtain ⟨col, hcol⟩ : ∃ a, a = i / 4 := ⟨_, rfl⟩
              obtain ⟨m, hm⟩ : ∃ a, a = (i / 4 + i % 4) % 4 := ⟨_, rfl⟩
              obtain ⟨p, hp⟩ : ∃ a, a = 4 * ((i / 4 + i % 4) % 4) + i % 4 := ⟨_, rfl⟩
              have hva := VA.out i hl16
              rw [← hp, HSW.out] at hva
              have p16 : p < 16 := by omega
              have c0 := hB.u8 (i := p) (by rw [DL.out]; exact p16)
              obtain ⟨y, hy⟩ : ∃ y, y = d.getD p 0 := ⟨_, rfl⟩
              rw [← hy] at c0 hva
              have hyl := y.toNat_lt
              have hS' := hS
              rw [HCS.out] at hS'
              have c1 := hS'.u8 (i := y.toNat) (by rw [SL.out]; exact hyl)
              rw [← hva] at c1
              have c2 := hY.u8 (i := i) (by rw [fillU_len VL.out hi]; exact hl16)
              have f2 := hY.free i
              have HN := Lib.hid (hY.fill VL.out hl16)
              obtain ⟨t, htt⟩ : ∃ t, t = v.getD i 0 := ⟨_, rfl⟩
              rw [← htt] at c1 HN
              have q1 : (i : Int).tmod 4 = (row : Int) := by rw [Int.tmod_eq_emod_of_nonneg (by omega)]; omega
              have q1' : (i : Int) % 4 = (row : Int) := by omega
              have q2 : (i : Int).tdiv 4 = (col : Int) := by rw [Int.tdiv_eq_ediv_of_nonneg (by omega)]; omega
              have q2' : (i : Int) / 4 = (col : Int) := by omega
              have q3 : ((col : Int) + (row : Int)) % 4 = (m : Int) := by omega
              have q4 : 4 * (m : Int) + (row : Int) = (p : Int) := by omega
              have b1 : (row : Int) < 4 := by omega
              have b2 : (col : Int) < 4 := by omega
              have b3 : (m : Int) < 4 := by omega
              have b4 : (p : Int) < 16 := by omega
              have b5 : (0 : Int) ≤ (p : Int) := by omega
              have b6 : (y.toNat : Int) < 256 := by omega
              have FS := Lib.hid ((Fr1.refl g9 wr).set i (.int .u8 (t.toNat : Int)))
              clear hR hS hS' hB hY hZ hF htt hva hy hyl p16 hrow hcol hm hp
              go_wp2_with fail
              clear q1 q1' q2 q2' q3 q4 b1 b2 b3 b4 b5 b6 c0 c1 c2 f2
              go_roundw
              case rel => exact ⟨i + 1, by omega, by go_num, (R.out).fr1 FS.out nr9, (S.out).fr1 FS.out nt9, (B.out).fr1 FS.out nb9, HN.out, (Z.out).fr1 FS.out n69, Fr0.new F.out FS.out LG9.out⟩
              case measure => simp [intOf]; omega
            · obtain rfl : i = 16 := by omega
              rw [show ((16 : Nat) : Int) = 16 from rfl]
              have Y := Lib.hid (show Blk wr g9 (byts v).toArray 31 by rw [fillU_all VL.out] at hY; exact hY)
              have HIV := Lib.hid (HIA.out v VL.out)
              have HZV := Lib.hid (HSZ.out d v DL.out VL.out)
              have hav := byts_all v
              clear hR hS hB hY hZ hF
              go_upto_region 16 with (first
                | (refine list_load_blk rfl 31 _ rfl g9 rfl 31 (byts v).toArray Y.out _ Try.underlying31 rfl HIV.out ?_)
                | (refine list_store_blk rfl 31 _ _ rfl gb (byts v).toArray rfl rfl 31 (byts d).toArray B.out HIV.out HZV.out hav ?_; intro w10 hB hF; have C := Lib.hid hB; have F10 := Lib.hid hF; clear hB hF))
              have R := Lib.hid ((R.out).fr1 F10.out nrb)
              have S := Lib.hid ((S.out).fr1 F10.out ntb)
              have Z := Lib.hid ((Z.out).fr1 F10.out n6b)
              have Y := Lib.hid ((Y.out).fr1 F10.out n9b)
              have F := Lib.hid (Fr0.new F.out F10.out LB.out)
              clear F10 B
              by_cases h10 : j + 1 < 10
              · have EB := Lib.hid (fun i h => show e.getD i 0 = x.getD i 0 ^^^ ks.getD ((j + 1) * 16 + i) 0 from by have := EA.out i h; rwa [if_pos h10] at this)
                have j2 : (j : Int) + 1 < 10 := by omega
                have B := Lib.hid (show Blk w10 gb (byts (overU x v (4 * 0))).toArray 31 from C.out)
                clear C h10
                go_wp2_with fail
                go_loopw [13] (fun v13 wx => ∃ c : Nat, c ≤ 4 ∧ v13 = .int .i64 (c : Int) ∧ Blk wx gr ck 74 ∧ Blk wx gt cs 72 ∧ Blk wx gb (byts (overU x v (4 * c))).toArray 31 ∧ Blk wx g9 (byts v).toArray 31 ∧ Blk wx g6 z 31 ∧ Fr0 w wx) (fun v13 _ => 4 - (intOf v13).toNat)
                case atStart => exact ⟨0, by omega, rfl, R.out, S.out, B.out, Y.out, Z.out, F.out⟩
                case round =>
                  obtain ⟨c, hc, rfl, hR, hS, hB, hY, hZ, hF⟩ := hrel
                  clear R S B Y Z F
                  have R := Lib.hid hR
                  have S := Lib.hid hS
                  have B := Lib.hid hB
                  have Y := Lib.hid hY
                  have Z := Lib.hid hZ
                  have F := Lib.hid hF
                  clear hR hS hB hY hZ hF
                  by_cases hlc : c < 4
                  · have c0 : (0 : Int) ≤ (c : Int) := by omega
                    have c1 : (c : Int) < 4 := by omega
                    go_wp2_with fail
                    go_loopw [14] (fun v14 wx => ∃ r : Nat, r ≤ 4 ∧ v14 = .int .i64 (r : Int) ∧ Blk wx gr ck 74 ∧ Blk wx gt cs 72 ∧ Blk wx gb (byts (overU x v (4 * c + r))).toArray 31 ∧ Blk wx g9 (byts v).toArray 31 ∧ Blk wx g6 z 31 ∧ Fr0 w wx) (fun v14 _ => 4 - (intOf v14).toNat)
                    case atStart => exact ⟨0, by omega, rfl, R.out, S.out, B.out, Y.out, Z.out, F.out⟩
                    case round =>
                      obtain ⟨r, hr, rfl, hR, hS, hB, hY, hZ, hF⟩ := hrel
                      clear R S B Y Z F
                      have R := Lib.hid hR
                      have S := Lib.hid hS
                      have Y := Lib.hid hY
                      have Z := Lib.hid hZ
                      have F := Lib.hid hF
                      by_cases hlr : r < 4
                      · have r0 : (0 : Int) ≤ (r : Int) := by omega
                        have r1 : (r : Int) < 4 := by omega
                        obtain ⟨p0, hp0, l0, w0, w1, b0, b4⟩ := ridx0 c r hlc hlr
                        obtain ⟨m1, p1, hm1, hp1, l1, w2, t1, w5, b1, b5⟩ := ridx c r 1 1 rfl hlc hlr (by decide)
                        obtain ⟨m2, p2, hm2, hp2, l2, w3, t2, w6, b2, b6⟩ := ridx c r 2 2 rfl hlc hlr (by decide)
                        obtain ⟨m3, p3, hm3, hp3, l3, w4, t3, w7, b3, b7⟩ := ridx c r 3 3 rfl hlc hlr (by decide)
                        have hxa := XA.out c r hlc hlr
                        rw [← hm1, ← hm2, ← hm3, ← hp0, ← hp1, ← hp2, ← hp3] at hxa
                        have cy0 := hY.u8 (i := p0) (by rw [VL.out]; exact l0)
                        have cy1 := hY.u8 (i := p1) (by rw [VL.out]; exact l1)
                        have cy2 := hY.u8 (i := p2) (by rw [VL.out]; exact l2)
                        have cy3 := hY.u8 (i := p3) (by rw [VL.out]; exact l3)
                        rw [← hp0] at hB
                        have cb0 := hB.u8 (i := p0) (by rw [overU_len XL.out VL.out (Nat.le_of_lt l0)]; exact l0)
                        have fb0 := hB.free p0
                        have HN := Lib.hid (hB.over XL.out VL.out l0)
                        obtain ⟨t, htt⟩ : ∃ t, t = x.getD p0 0 := ⟨_, rfl⟩
                        obtain ⟨y0, hy0⟩ : ∃ t, t = v.getD p0 0 := ⟨_, rfl⟩
                        obtain ⟨y1, hy1⟩ : ∃ t, t = v.getD p1 0 := ⟨_, rfl⟩
                        obtain ⟨y2, hy2⟩ : ∃ t, t = v.getD p2 0 := ⟨_, rfl⟩
                        obtain ⟨y3, hy3⟩ : ∃ t, t = v.getD p3 0 := ⟨_, rfl⟩
                        rw [← htt] at HN hxa
                        rw [← hy0] at cy0 hxa
                        rw [← hy1] at cy1 hxa
                        rw [← hy2] at cy2 hxa
                        rw [← hy3] at cy3 hxa
                        have HC2 := Lib.hid (fun W => HT2.out y0 W)
                        have HC3 := Lib.hid (fun W => HT3.out y1 W)
                        obtain ⟨u2, hu2⟩ : ∃ t, t = tms 2 y0 := ⟨_, rfl⟩
                        obtain ⟨u3, hu3⟩ : ∃ t, t = tms 3 y1 := ⟨_, rfl⟩
                        rw [← hu2] at HC2 hxa
                        rw [← hu3] at HC3 hxa
                        have x1 := xorU u2 u3
                        have x2 := xorU (u2 ^^^ u3) y2
                        have x3 := xorU (u2 ^^^ u3 ^^^ y2) y3
                        rw [← hxa] at x3
                        obtain ⟨s1, hs1⟩ : ∃ s, s = u2 ^^^ u3 := ⟨_, rfl⟩
                        rw [← hs1] at x1 x2 x3
                        obtain ⟨s2, hs2⟩ : ∃ s, s = s1 ^^^ y2 := ⟨_, rfl⟩
                        rw [← hs2] at x2 x3
                        have HP0 := Lib.hid hp0
                        have FS := Lib.hid (((Fr1.refl gb wr).set p0 (.int .u8 (t.toNat : Int))).drew)
                        clear hR hS hB hY hZ hF htt hy0 hy1 hy2 hy3 hu2 hu3 hs1 hs2 hxa hp0 hp1 hp2 hp3 hm1 hm2 hm3 l0 l1 l2 l3
                        go_wp2_with fail
                        refine wp_region_still_tail 40 (by kernel_rfl) (by kernel_rfl) ?_
                        simp only [List.take_succ_cons, List.take_zero, List.drop_succ_cons, List.drop_zero]
                        iterate 10 still_step
                        still_call (HC2.out _)
                        iterate 8 still_step
                        still_call (HC3.out _)
                        repeat still_step
                        try refine wpStill_nil ?_
                        go_wp2_with fail
                        clear w0 w1 w2 w3 w4 w5 w6 w7 t1 t2 t3 b0 b1 b2 b3 b4 b5 b6 b7 cy0 cy1 cy2 cy3 cb0 fb0 x1 x2 x3
                        go_roundw
                        case rel => exact ⟨r + 1, by omega, by go_num, (R.out).fr1 FS.out nrb, (S.out).fr1 FS.out ntb, by rw [← Nat.add_assoc, ← HP0.out]; exact (HN.out).drew, (Y.out).fr1 FS.out n9b, (Z.out).fr1 FS.out n6b, Fr0.new F.out FS.out LB.out⟩
                        case measure => simp [intOf]; omega
                      · obtain rfl : r = 4 := by omega
                        have B := Lib.hid (show Blk wr gb (byts (overU x v (4 * (c + 1)))).toArray 31 by rw [show 4 * (c + 1) = 4 * c + 4 by omega]; exact hB)
                        clear hR hS hB hY hZ hF
                        go_wp2_with fail
                        go_roundw
                        case rel => exact ⟨c + 1, by omega, by go_num, R.out, S.out, B.out, Y.out, Z.out, F.out⟩
                        case measure => simp [intOf]; omega
                  · obtain rfl : c = 4 := by omega
                    rw [show ((4 : Nat) : Int) = 4 from rfl]
                    have BX := Lib.hid (show Blk wr gb (byts x).toArray 31 by have h := B.out; rw [show 4 * 4 = 16 from rfl, overU_all XL.out VL.out] at h; exact h)
                    have B := Lib.hid (show Blk wr gb (byts (overU e x 0)).toArray 31 from BX.out)
                    clear BX Y
                    go_wp2_with fail
                    go_loopw [15] (fun vi wr => ∃ i : Nat, i ≤ 16 ∧ vi = .int .i64 (i : Int) ∧ Blk wr gr ck 74 ∧ Blk wr gt cs 72 ∧ Blk wr gb (byts (overU e x i)).toArray 31 ∧ Blk wr g6 z 31 ∧ Fr0 w wr) (fun vi _ => 16 - (intOf vi).toNat)
                    case atStart => exact ⟨0, by omega, rfl, R.out, S.out, B.out, Z.out, F.out⟩
                    case round =>
                      obtain ⟨i, hi, rfl, hR, hS, hB, hZ, hF⟩ := hrel
                      clear R S B Z F
                      have R := Lib.hid hR
                      have S := Lib.hid hS
                      have Z := Lib.hid hZ
                      have F := Lib.hid hF
                      by_cases hlt : i < 16
                      · have i0 : (0 : Int) ≤ (i : Int) := by omega
                        have i1 : (i : Int) < 16 := by omega
                        have cb0 := hB.u8 (i := i) (by rw [overU_len EL.out XL.out hi]; exact hlt)
                        rw [overU_at EL.out XL.out hi] at cb0
                        have fb0 := hB.free i
                        have hR' := hR
                        rw [HCK.out] at hR'
                        have cr0 := hR'.u8 (i := (j + 1) * 16 + i) (by rw [HKL.out]; omega)
                        have hv := EB.out i hlt
                        have HN := Lib.hid (hB.over EL.out XL.out hlt)
                        obtain ⟨t, htt⟩ : ∃ t, t = (e).getD i 0 := ⟨_, rfl⟩
                        obtain ⟨x, hxx⟩ : ∃ t, t = (x).getD i 0 := ⟨_, rfl⟩
                        obtain ⟨y, hyy⟩ : ∃ t, t = ks.getD ((j + 1) * 16 + i) 0 := ⟨_, rfl⟩
                        rw [← htt] at HN hv
                        rw [← hxx] at cb0 hv
                        rw [← hyy] at cr0 hv
                        have hx := xorU x y
                        rw [← hv] at hx
                        have FS := Lib.hid (((Fr1.refl gb wr).set i (.int .u8 (t.toNat : Int))).drew)
                        clear hR hR' hS hB hZ hF htt hxx hyy hv
                        go_wp2_with fail
                        go_still_tail 11, (by kernel_rfl)
                        go_wp2_with fail
                        clear cb0 fb0 cr0 hx
                        go_roundw
                        case rel => exact ⟨i + 1, by omega, by go_num, (R.out).fr1 FS.out nrb, (S.out).fr1 FS.out ntb, (HN.out).drew, (Z.out).fr1 FS.out n6b, Fr0.new F.out FS.out LB.out⟩
                        case measure => simp [intOf]; omega
                      · obtain rfl : i = 16 := by omega
                        rw [show ((16 : Nat) : Int) = 16 from rfl]
                        have B := Lib.hid (show Blk wr gb (byts (e)).toArray 31 by rw [overU_all EL.out XL.out] at hB; exact hB)
                        clear hR hS hB hZ hF
                        go_wp2_with fail
                        go_roundw
                        case rel => exact ⟨j + 1, by omega, congrArg (Value.int .i64) (by push_cast; omega), R.out, S.out, by rw [← HE.out]; exact B.out, Z.out, F.out⟩
                        case measure => simp [intOf]; omega
              · have EB := Lib.hid (fun i h => show e.getD i 0 = v.getD i 0 ^^^ ks.getD ((j + 1) * 16 + i) 0 from by have := EA.out i h; rwa [if_neg h10] at this)
                have j2 : (10 : Int) ≤ (j : Int) + 1 := by omega
                have B := Lib.hid (show Blk w10 gb (byts (overU e v 0)).toArray 31 from C.out)
                clear C Y h10
                go_wp2_with fail
                go_loopw [15] (fun vi wr => ∃ i : Nat, i ≤ 16 ∧ vi = .int .i64 (i : Int) ∧ Blk wr gr ck 74 ∧ Blk wr gt cs 72 ∧ Blk wr gb (byts (overU e v i)).toArray 31 ∧ Blk wr g6 z 31 ∧ Fr0 w wr) (fun vi _ => 16 - (intOf vi).toNat)
                case atStart => exact ⟨0, by omega, rfl, R.out, S.out, B.out, Z.out, F.out⟩
                case round =>
                  obtain ⟨i, hi, rfl, hR, hS, hB, hZ, hF⟩ := hrel
                  clear R S B Z F
                  have R := Lib.hid hR
                  have S := Lib.hid hS
                  have Z := Lib.hid hZ
                  have F := Lib.hid hF
                  by_cases hlt : i < 16
                  · have i0 : (0 : Int) ≤ (i : Int) := by omega
                    have i1 : (i : Int) < 16 := by omega
                    have cb0 := hB.u8 (i := i) (by rw [overU_len EL.out VL.out hi]; exact hlt)
                    rw [overU_at EL.out VL.out hi] at cb0
                    have fb0 := hB.free i
                    have hR' := hR
                    rw [HCK.out] at hR'
                    have cr0 := hR'.u8 (i := (j + 1) * 16 + i) (by rw [HKL.out]; omega)
                    have hv := EB.out i hlt
                    have HN := Lib.hid (hB.over EL.out VL.out hlt)
                    obtain ⟨t, htt⟩ : ∃ t, t = (e).getD i 0 := ⟨_, rfl⟩
                    obtain ⟨x, hxx⟩ : ∃ t, t = (v).getD i 0 := ⟨_, rfl⟩
                    obtain ⟨y, hyy⟩ : ∃ t, t = ks.getD ((j + 1) * 16 + i) 0 := ⟨_, rfl⟩
                    rw [← htt] at HN hv
                    rw [← hxx] at cb0 hv
                    rw [← hyy] at cr0 hv
                    have hx := xorU x y
                    rw [← hv] at hx
                    have FS := Lib.hid (((Fr1.refl gb wr).set i (.int .u8 (t.toNat : Int))).drew)
                    clear hR hR' hS hB hZ hF htt hxx hyy hv
                    go_wp2_with fail
                    go_still_tail 11, (by kernel_rfl)
                    go_wp2_with fail
                    clear cb0 fb0 cr0 hx
                    go_roundw
                    case rel => exact ⟨i + 1, by omega, by go_num, (R.out).fr1 FS.out nrb, (S.out).fr1 FS.out ntb, (HN.out).drew, (Z.out).fr1 FS.out n6b, Fr0.new F.out FS.out LB.out⟩
                    case measure => simp [intOf]; omega
                  · obtain rfl : i = 16 := by omega
                    rw [show ((16 : Nat) : Int) = 16 from rfl]
                    have B := Lib.hid (show Blk wr gb (byts (e)).toArray 31 by rw [overU_all EL.out VL.out] at hB; exact hB)
                    clear hR hS hB hZ hF
                    go_wp2_with fail
                    go_roundw
                    case rel => exact ⟨j + 1, by omega, congrArg (Value.int .i64) (by push_cast; omega), R.out, S.out, by rw [← HE.out]; exact B.out, Z.out, F.out⟩
                    case measure => simp [intOf]; omega
        · obtain rfl : j = 10 := by omega
          have R := Lib.hid hR
          have B := Lib.hid hB
          have Z := Lib.hid hZ
          have F := Lib.hid hF
          have HI8 := Lib.hid (HIA.out (D 10) (HDL.out 10))
          have HZ8 := Lib.hid (HZ16.out (D 10) (HDL.out 10))
          have ha8 := byts_all (D 10)
          clear hR hS hB hZ hF
          go_wp2_with (first
            | (refine list_load_blk rfl 31 _ rfl gb rfl 31 (byts (D 10)).toArray B.out _ Try.underlying31 rfl HI8.out ?_)
            | (refine list_store_blk rfl 31 _ _ rfl g6 (byts (D 10)).toArray rfl rfl 31 z Z.out HI8.out HZ8.out ha8 ?_; intro w12 hB hF; have C5 := Lib.hid hB; have F12 := Lib.hid (Fr0.new F.out hF LG6.out); clear hB hF))
          refine bodyPost_ret (v := .agg (byts (D 10)).toArray) (results_cell_row rfl _ _ g6 31 (byts (D 10)).toArray (0, 0) _ rfl C5.out Try.underlying31 rfl HI8.out) rfl ⟨rfl, F12.out⟩
end Go.Proofs.Ytpmindbipclphaa
