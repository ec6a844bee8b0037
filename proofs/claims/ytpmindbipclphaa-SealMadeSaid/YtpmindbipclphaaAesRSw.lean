/- The reference's table of all bytes swapped. Conditions stand in the statements. -/
import Derived.Test.YtpmindbipclphaaAesRTms
import Derived.Test.YtpmindbipclphaaSteps
import Derived.Test.YtpmindbipclphaaQuiet
import Derived.Test.YtpmindbipclphaaArr
import Derived.Test.YtpmindbipclphaaArrRd
import Derived.Test.YtpmindbipclphaaSteps2
import Derived.Test.YtpmindbipclphaaAesArr
import Derived.Test.YtpmindbipclphaaShaEq
import Derived.Deep.DeepCutAuto
import Derived.StillTailTactics
import Derived.Laws.ResultCell
set_option linter.unusedSimpArgs false
set_option linter.unusedVariables false
namespace Go.Proofs.Ytpmindbipclphaa
open Go.RowKit

set_option maxHeartbeats 1000000 in
theorem rleft_any (a : UInt8) (n : Nat) (w : World) (h1 : 1 ≤ n) (h4 : n ≤ 7) : Calls Try.prog 73 #[.int .u8 (a.toNat : Int), .int .i64 (n : Int)] w fun e w' => e = .returned (.int .u8 ((rleft a n).toNat : Int)) ∧ w = w' := by
  have ha := a.toNat_lt
  have e1 : IntKind.u64.wrap (n : Int) = (n : Int) := by rw [IntKind.wrap_u64]; omega
  have e2 : IntKind.u64.wrap (8 - (n : Int)) = 8 - (n : Int) := by rw [IntKind.wrap_u64]; omega
  have e4 : (8 - (n : Int)).toNat = 8 - n := by omega
  have i0 : (0 : Int) ≤ (n : Int) := by omega
  have i1 : (0 : Int) ≤ 8 - (n : Int) := by omega
  have HV := Lib.hid (show rleft a n = UInt8.ofNat (a.toNat * 2 ^ n) ||| UInt8.ofNat (a.toNat / 2 ^ (8 - n)) from rfl)
  go_enter Try.func73, Try.ntmps73
  go_wp2_with fail
  go_ret
  have f1 : (a.toNat : Int) * 2 ^ n % 256 = ((UInt8.ofNat (a.toNat * 2 ^ n)).toNat : Int) := by rw [UInt8.toNat_ofNat', Int.natCast_emod, Int.natCast_mul, Int.natCast_pow]; rfl
  have f2 : (a.toNat : Int) / 2 ^ (8 - n) = ((UInt8.ofNat (a.toNat / 2 ^ (8 - n))).toNat : Int) := by
    rw [UInt8.toNat_ofNat', Nat.mod_eq_of_lt (Nat.lt_of_le_of_lt (Nat.div_le_self _ _) ha), div2_cast]
  have E : Value.int .u8 (bits .or .u8 ((a.toNat : Int) * 2 ^ n % 256) ((a.toNat : Int) / 2 ^ (8 - n))) = .int .u8 ((rleft a n).toNat : Int) := by
    rw [f1, f2, orU, HV.out]
  exact ⟨congrArg Ending.returned E, rfl⟩
set_option maxHeartbeats 1000000 in
theorem rother_any (a : UInt8) (w : World) : Calls Try.prog 72 #[.int .u8 (a.toNat : Int)] w fun e w' => e = .returned (.int .u8 ((rOther a).toNat : Int)) ∧ w = w' := by
  have HV := Lib.hid (show rOther a = match (List.range 255).find? (fun i => rtm a (UInt8.ofNat (i + 1)) == 1) with | some i => UInt8.ofNat (i + 1) | none => 0 from rfl)
  obtain ⟨r, hr⟩ : ∃ r, r = rOther a := ⟨_, rfl⟩
  rw [← hr] at HV ⊢
  clear hr
  go_enter Try.func72, Try.ntmps72
  go_wp2_with fail
  go_loop [3] (fun v3 => ∃ i : Nat, i ≤ 255 ∧ v3 = .int .i64 ((i + 1 : Nat) : Int) ∧ ∀ j, j < i → (rtm a (UInt8.ofNat (j + 1)) == 1) = false) (fun v3 => 256 - (intOf v3).toNat)
  case atStart => exact ⟨0, by omega, rfl, fun j hj => absurd hj (by omega)⟩
  case round =>
    obtain ⟨i, hi, rfl, hno⟩ := hrel
    have HNO := Lib.hid hno
    clear hno
    by_cases hlt : i < 255
    · have hc := rtimes_any a (UInt8.ofNat (i + 1)) w
      rw [u8_of _ (by omega)] at hc
      have HC := Lib.hid hc
      have e1 : ((i + 1 : Nat) : Int) % 256 = ((i + 1 : Nat) : Int) := by omega
      have e2 : IntKind.u8.wrap ((i + 1 : Nat) : Int) = ((i + 1 : Nat) : Int) := by rw [IntKind.wrap_u8']; omega
      have hl : ((i + 1 : Nat) : Int) < 256 := by omega
      have HU := Lib.hid (show ((UInt8.ofNat (i + 1)).toNat : Int) = ((i + 1 : Nat) : Int) by rw [u8_of _ (by omega)])
      obtain ⟨t, ht⟩ : ∃ t, t = rtm a (UInt8.ofNat (i + 1)) := ⟨_, rfl⟩
      rw [← ht] at HC
      have HT := Lib.hid ht
      obtain ⟨k, hk⟩ : ∃ k, k = i + 1 := ⟨_, rfl⟩
      rw [← hk] at HC e1 e2 hl HU ⊢
      have HK := Lib.hid hk
      clear hc ht hk
      by_cases h1 : t = 1
      · have b1 : ((t.toNat : Int) == 1) = true := by rw [h1]; rfl
        have HF := Lib.hid (show r = UInt8.ofNat k from by
          rw [HV.out, List.find?_range_eq_some.2 ⟨by rw [← HT.out, h1]; rfl, List.mem_range.2 hlt, fun j hj => by rw [HNO.out j hj]; rfl⟩, HK.out])
        clear h1
        go_wp2_with (go_at_call 56; refine (HC.out).mono ?_; rintro e w' ⟨rfl, rfl⟩)
        go_ret
        exact ⟨by rw [HF.out, HU.out]; rfl, rfl⟩
      · have b1 : ((t.toNat : Int) == 1) = false := by
          simp only [beq_eq_false_iff_ne]
          exact fun h => h1 (UInt8.toNat_inj.1 (by show t.toNat = 1; omega))
        have HNT := Lib.hid (show (rtm a (UInt8.ofNat (i + 1)) == 1) = false by rw [← HT.out]; simpa using h1)
        clear h1
        go_wp2_with (go_at_call 56; refine (HC.out).mono ?_; rintro e w' ⟨rfl, rfl⟩)
        go_round
        case rel => exact ⟨i + 1, by omega, by rw [HK.out]; go_num, fun j hj => by
          rcases (by omega : j < i ∨ j = i) with h | rfl
          · exact HNO.out j h
          · exact HNT.out⟩
        case measure => simp [intOf]; omega
    · obtain rfl : i = 255 := by omega
      have HF := Lib.hid (show r = 0 from by
        rw [HV.out, List.find?_range_eq_none.2 (fun j hj => by rw [HNO.out j hj]; rfl)])
      go_wp2_with fail
      go_ret
      exact ⟨by rw [HF.out]; rfl, rfl⟩
set_option maxHeartbeats 1000000 in
theorem rswap_any (a : UInt8) (w : World) : Calls Try.prog 55 #[.int .u8 (a.toNat : Int)] w fun e w' => e = .returned (.int .u8 ((rSwap a).toNat : Int)) ∧ w = w' := by
  have HV := Lib.hid (show rSwap a = rOther a ^^^ rleft (rOther a) 1 ^^^ rleft (rOther a) 2 ^^^ rleft (rOther a) 3 ^^^ rleft (rOther a) 4 ^^^ 99 from rfl)
  have HO := Lib.hid (rother_any a w)
  obtain ⟨y, hy⟩ : ∃ y, y = rOther a := ⟨_, rfl⟩
  rw [← hy] at HO HV
  have H1 := Lib.hid (show Calls Try.prog 73 #[.int .u8 (y.toNat : Int), .int .i64 1] w (fun e w' => e = .returned (.int .u8 ((rleft y 1).toNat : Int)) ∧ w = w') from rleft_any y 1 w (by omega) (by omega))
  have H2 := Lib.hid (show Calls Try.prog 73 #[.int .u8 (y.toNat : Int), .int .i64 2] w (fun e w' => e = .returned (.int .u8 ((rleft y 2).toNat : Int)) ∧ w = w') from rleft_any y 2 w (by omega) (by omega))
  have H3 := Lib.hid (show Calls Try.prog 73 #[.int .u8 (y.toNat : Int), .int .i64 3] w (fun e w' => e = .returned (.int .u8 ((rleft y 3).toNat : Int)) ∧ w = w') from rleft_any y 3 w (by omega) (by omega))
  have H4 := Lib.hid (show Calls Try.prog 73 #[.int .u8 (y.toNat : Int), .int .i64 4] w (fun e w' => e = .returned (.int .u8 ((rleft y 4).toNat : Int)) ∧ w = w') from rleft_any y 4 w (by omega) (by omega))
  have x1 := xorU y (rleft y 1)
  have x2 := xorU (y ^^^ rleft y 1) (rleft y 2)
  have x3 := xorU (y ^^^ rleft y 1 ^^^ rleft y 2) (rleft y 3)
  have x4 := xorU (y ^^^ rleft y 1 ^^^ rleft y 2 ^^^ rleft y 3) (rleft y 4)
  have x5 := xorU (y ^^^ rleft y 1 ^^^ rleft y 2 ^^^ rleft y 3 ^^^ rleft y 4) 99
  obtain ⟨r, hr⟩ : ∃ r, r = rSwap a := ⟨_, rfl⟩
  rw [← hr] at HV ⊢
  rw [← HV.out] at x5
  generalize rleft y 1 = y1 at *
  generalize rleft y 2 = y2 at *
  generalize rleft y 3 = y3 at *
  generalize rleft y 4 = y4 at *
  generalize y ^^^ y1 = z1 at *
  generalize z1 ^^^ y2 = z2 at *
  generalize z2 ^^^ y3 = z3 at *
  generalize z3 ^^^ y4 = z4 at *
  have X := Lib.hid (And.intro x1 (And.intro x2 (And.intro x3 (And.intro x4 x5))))
  clear hy hr HV x1 x2 x3 x4 x5
  go_enter Try.func55, Try.ntmps55
  go_wp2_with (first
    | (go_at_call 72; refine (HO.out).mono ?_; rintro e w' ⟨rfl, rfl⟩)
    | (go_at_call 73; (first | ((with_reducible refine (H1.out).mono ?_); rintro e w' ⟨rfl, rfl⟩) | ((with_reducible refine (H2.out).mono ?_); rintro e w' ⟨rfl, rfl⟩) | ((with_reducible refine (H3.out).mono ?_); rintro e w' ⟨rfl, rfl⟩) | ((with_reducible refine (H4.out).mono ?_); rintro e w' ⟨rfl, rfl⟩))))
  go_ret
  obtain ⟨x1, x2, x3, x4, x5⟩ := X.out
  have E : Value.int .u8 (bits .xor .u8 (bits .xor .u8 (bits .xor .u8 (bits .xor .u8 (bits .xor .u8 (y.toNat : Int) (y1.toNat : Int)) (y2.toNat : Int)) (y3.toNat : Int)) (y4.toNat : Int)) 99) = .int .u8 (r.toNat : Int) := by
    rw [x1, x2, x3, x4]
    exact congrArg _ x5
  exact ⟨congrArg Ending.returned E, rfl⟩
set_option maxHeartbeats 1000000 in
set_option maxRecDepth 100000 in
theorem rtable_any (w : World) : Calls Try.prog 39 #[] w fun e w' => e = .returned (.agg (byts sbox).toArray) ∧ Fr0 w w' := by
  have HS := Lib.hid (fun (i : Nat) (h : i < 256) W => show Calls Try.prog 55 #[.int .u8 (i : Int)] W (fun e w' => e = .returned (.int .u8 ((sbox.getD i 0).toNat : Int)) ∧ W = w') from by
    have := rswap_any (UInt8.ofNat i) W
    rwa [rSwap_swp i h, u8_of i h] at this)
  have HL := Lib.hid sbox_len
  obtain ⟨T, hT⟩ : ∃ T, T = sbox := ⟨_, rfl⟩
  rw [← hT] at HS HL ⊢
  clear hT
  obtain ⟨z, hz⟩ : ∃ z, z = (byts (List.replicate 256 0)).toArray := ⟨_, rfl⟩
  have HRUN := Lib.hid (show ∀ W : World, (Instr.alloc 72 true (.tuple #[])).run Try.prog W = .ok (.pointer (some ⟨W.heap.size, 0, none⟩)) (W.alloc (.cells z 72)) from by rw [hz]; exact fun _ => by kernel_rfl)
  have HZ := Lib.hid hz
  clear hz
  go_enter Try.func39, Try.ntmps39
  go_upto_region 3 with (first
    | (have _q := B1; refine list_alloc_blk rfl 72 rfl z HRUN.out ?_; intro g2 w2 hB hF hl; have C2 := Lib.hid hB; have B2 := Lib.hid ((B1.out).fr0 hF); have F2 := Lib.hid (Fr0.trans F1.out hF); have L2 := Lib.hid hl; clear hB hF hl)
    | (refine list_alloc_blk rfl 72 rfl z HRUN.out ?_; intro g1 w1 hB hF hl; have B1 := Lib.hid hB; have F1 := Lib.hid hF; have L1 := Lib.hid hl; clear hB hF hl))
  have hl2 := L2.out
  have hl1 := (F1.out).size
  go_loopw [2] (fun v2 wr => ∃ i : Nat, i ≤ 256 ∧ v2 = .int .i64 (i : Int) ∧ Blk wr g2 (byts (fillU T 256 i)).toArray 72 ∧ Blk wr g1 z 72 ∧ Fr0 w wr) (fun v2 _ => 256 - (intOf v2).toNat)
  case atStart => exact ⟨0, by omega, rfl, by have h := C2.out; rw [HZ.out] at h; exact h, B2.out, F2.out⟩
  case round =>
    obtain ⟨i, hi, rfl, hC, hB, hF⟩ := hrel
    have KC := Lib.hid hC
    have KB := Lib.hid hB
    have KF := Lib.hid hF
    by_cases hlt : i < 256
    · have c0 := hC.u8 (i := i) (by rw [fillU_len HL.out hi]; exact hlt)
      have f0 := hC.free i
      have HC := Lib.hid (HS.out i hlt wr)
      have HN := Lib.hid (hC.fill HL.out hlt)
      have e1 : (i : Int) % 256 = (i : Int) := by omega
      have e2 : IntKind.u8.wrap (i : Int) = (i : Int) := by rw [IntKind.wrap_u8']; omega
      have i0 : (0 : Int) ≤ (i : Int) := by omega
      have i1 : (i : Int) < 256 := by omega
      obtain ⟨x, hx⟩ : ∃ x, x = T.getD i 0 := ⟨_, rfl⟩
      rw [← hx] at HC HN
      clear hx hC hB hF
      go_wp2_with (go_at_call 55; refine (HC.out).mono ?_; rintro e w' ⟨rfl, rfl⟩)
      go_roundw
      case rel => exact ⟨i + 1, by omega, by go_num, HN.out, (KB.out).fr1 ((Fr1.refl g2 wr).set i _) (by have := (B1.out).lt; omega), Fr0.new KF.out ((Fr1.refl g2 wr).set i _) (by omega)⟩
      case measure => simp [intOf]; omega
    · obtain rfl : i = 256 := by omega
      rw [fillU_all HL.out] at hC
      have hi8 : (Try.prog.info? 72).map (·.size) = some (byts T).toArray.size := by rw [byts_size, HL.out]; kernel_rfl
      have hz8 : z.size = (byts T).toArray.size := by rw [HZ.out, byts_size, byts_size, HL.out]; rfl
      have ha8 := byts_all T
      obtain ⟨cs, hcs⟩ : ∃ c, c = (byts T).toArray := ⟨_, rfl⟩
      rw [← hcs] at hC hi8 hz8 ha8
      have HCS := Lib.hid hcs
      have KC := Lib.hid hC
      have HI := Lib.hid hi8
      have HZS := Lib.hid hz8
      clear hC hB hF hi8 hz8 hcs
      go_wp2_with (first
        | (refine list_load_blk rfl 72 _ rfl g2 rfl 72 cs KC.out _ Try.underlying72 rfl HI.out ?_)
        | (refine list_store_blk rfl 72 _ _ rfl g1 cs rfl rfl 72 z KB.out HI.out HZS.out ha8 ?_; intro w4 hB hF; have C4 := Lib.hid hB; have F4 := Lib.hid (Fr0.new KF.out hF (by have := L1.out; omega)); clear hB hF))
      refine bodyPost_ret (v := .agg cs) (results_cell_row rfl _ _ g1 72 cs (0, 0) _ rfl C4.out Try.underlying72 rfl HI.out) rfl ⟨by rw [HCS.out], F4.out⟩
end Go.Proofs.Ytpmindbipclphaa
