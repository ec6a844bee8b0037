/- aes.move: a block swapped, its rows moved by a column each. Conditions stand in the statements. -/
import Derived.Test.YtpmindbipclphaaAesAdd
set_option linter.unusedSimpArgs false
set_option linter.unusedVariables false
namespace Go.Proofs.Ytpmindbipclphaa
open Go.RowKit

set_option maxHeartbeats 4000000 in
set_option maxRecDepth 10000 in
theorem amove_any {b : List UInt8} {gs : Nat} {w : World} (hb : b.length = 16) (hs : Blk w gs (byts sbox).toArray 72) : Calls Try.prog 65 #[.agg (byts b).toArray, .int .i64 1, .pointer (some ⟨gs, 0, none⟩)] w fun e w' => e = .returned (.agg (byts (mvL b)).toArray) ∧ Fr0 w w' := by
  have TL := Lib.hid (show (mvL b).length = 16 from map16_len _)
  have TA := Lib.hid (fun i (h : i < 16) => show (mvL b).getD i 0 = sbox.getD (b.getD ((i + 4 * (i % 4)) % 16) 0).toNat 0 from map16_at _ h)
  have SL := Lib.hid sbox_len
  have HSX := Lib.hid hs
  have B0 := Lib.hid (Blk.new w (byts b).toArray 31)
  have HI := Lib.hid (a16_info (TL.out))
  have HZ := Lib.hid (z16_size (TL.out))
  have ha8 := byts_all (mvL b)
  have HBL := Lib.hid hb
  have HRUN := Lib.hid (fun W => z16_run W)
  obtain ⟨T, hT⟩ : ∃ T, T = mvL b := ⟨_, rfl⟩
  obtain ⟨sb, hsb⟩ : ∃ T, T = sbox := ⟨_, rfl⟩
  obtain ⟨z, hz⟩ : ∃ z, z = z16A := ⟨_, rfl⟩
  obtain ⟨cb, hcb⟩ : ∃ c, c = (byts b).toArray := ⟨_, rfl⟩
  rw [← hsb] at TA HSX SL
  rw [← hT] at TL TA ha8 HI HZ ⊢
  have HZZ := Lib.hid (hz.trans (show z16A = (byts (List.replicate 16 0)).toArray from rfl))
  rw [← hz] at HRUN HZ
  rw [← hcb] at B0 ⊢
  have HCB := Lib.hid hcb
  clear hT hz hcb hb hsb hs
  go_enter Try.func65, Try.ntmps65
  go_upto_region 3 with (first
    | (have _q := Z4; refine list_alloc_blk rfl 31 rfl z HRUN.out ?_; intro g7 w7 hB hF hl; have Z7 := Lib.hid hB; have F7 := Lib.hid hF; have L7 := Lib.hid hl; clear hB hF hl)
    | (refine list_alloc_blk rfl 31 rfl z HRUN.out ?_; intro g4 w4 hB hF hl; have Z4 := Lib.hid hB; have FF := Lib.hid hF; have L4 := Lib.hid hl; clear hB hF hl))
  have F4 := Lib.hid (show Fr0 w w7 from Fr0.trans (Fr0.trans ((Fr0.refl w).alloc _) FF.out) F7.out)
  have B7 := Lib.hid (((B0.out).fr0 FF.out).fr0 F7.out)
  have S7 := Lib.hid ((HSX.out).fr0 F4.out)
  have Z4 := Lib.hid ((Z4.out).fr0 F7.out)
  have hg := L4.out
  have hg7 := L7.out
  have hz4 := (Z4.out).lt
  have hs4 := (FF.out).size
  have hsl := (HSX.out).lt
  have hlt4 := (_q.out).lt
  simp only [World.size_alloc] at hg hs4
  obtain ⟨gb, hgb⟩ : ∃ g, g = w.heap.size := ⟨_, rfl⟩
  rw [← hgb] at B7
  rw [← hgb]
  have n1 : gs ≠ g7 := by omega
  have n2 : gb ≠ g7 := by omega
  have n3 : g4 ≠ g7 := by omega
  have LG := Lib.hid (show w.heap.size ≤ g4 by omega)
  have L7' := Lib.hid (show w.heap.size ≤ g7 by omega)
  clear hgb B0 FF L4 hg F7 L7 hg7 hz4 hs4 hsl hlt4 HSX _q
  go_loopw [9] (fun v9 wr => ∃ i : Nat, i ≤ 16 ∧ v9 = .int .i64 (i : Int) ∧ Blk wr gb cb 31 ∧ Blk wr gs (byts sb).toArray 72 ∧ Blk wr g7 (byts (fillU T 16 i)).toArray 31 ∧ Blk wr g4 z 31 ∧ Fr0 w wr) (fun v9 _ => 16 - (intOf v9).toNat)
  case atStart => exact ⟨0, by omega, rfl, B7.out, S7.out, by have h := Z7.out; rw [HZZ.out] at h; exact h, Z4.out, F4.out⟩
  case round =>
    obtain ⟨i, hi, rfl, hB, hS, hT, hZ, hF⟩ := hrel
    clear B7 S7 Z7 Z4 F4
    have KB := Lib.hid hB
    have KS := Lib.hid hS
    have KZ := Lib.hid hZ
    have HF := Lib.hid hF
    by_cases hlt : i < 16
    · obtain ⟨r, hr⟩ : ∃ r, r = i % 4 := ⟨_, rfl⟩
      obtain ⟨k, hk⟩ : ∃ k, k = (i + 4 * (i % 4)) % 16 := ⟨_, rfl⟩
      have hTi := TA.out i hlt
      rw [← hk] at hTi
      have hk16 : k < 16 := by omega
      have hB' := hB
      rw [HCB.out] at hB'
      have c0 := hB'.u8 (i := k) (by rw [HBL.out]; exact hk16)
      obtain ⟨x, hx⟩ : ∃ x, x = b.getD k 0 := ⟨_, rfl⟩
      rw [← hx] at c0 hTi
      have hxl := x.toNat_lt
      have c1 := hS.u8 (i := x.toNat) (by rw [SL.out]; exact hxl)
      rw [← hTi] at c1
      have c2 := hT.u8 (i := i) (by rw [fillU_len TL.out hi]; exact hlt)
      have f2 := hT.free i
      have HN := Lib.hid (hT.fill TL.out hlt)
      obtain ⟨t, htt⟩ : ∃ x, x = T.getD i 0 := ⟨_, rfl⟩
      rw [← htt] at c1 HN
      have q0 : IntKind.i64.wrap 4 = 4 := by decide
      have q1 : (i : Int).tmod 4 = (r : Int) := by rw [Int.tmod_eq_emod_of_nonneg (by omega)]; omega
      have q1' : (i : Int) % 4 = (r : Int) := by omega
      have hr4 : r < 4 := by omega
      have q2 : IntKind.i64.wrap (4 * (r : Int)) = 4 * (r : Int) := IntWalk.i64_in _ (by omega)
      have q3 : IntKind.i64.wrap ((i : Int) + 4 * (r : Int)) = (i : Int) + 4 * (r : Int) := IntWalk.i64_in _ (by omega)
      have q4 : ((i : Int) + 4 * (r : Int)).tmod 16 = (k : Int) := by rw [Int.tmod_eq_emod_of_nonneg (by omega)]; omega
      have q4' : ((i : Int) + 4 * (r : Int)) % 16 = (k : Int) := by omega
      have i0 : (0 : Int) ≤ (i : Int) := by omega
      have i1 : (i : Int) < 16 := by omega
      have i2 : (0 : Int) ≤ (k : Int) := by omega
      have i3 : (k : Int) < 16 := by omega
      have i4 : (0 : Int) ≤ (x.toNat : Int) := by omega
      have i5 : (x.toNat : Int) < 256 := by omega
      have FS := Lib.hid (((Fr1.refl g7 wr).set i (.int .u8 (t.toNat : Int))).drew)
      clear hr hk hx hTi htt hB hS hT hB' hZ hF hxl
      go_wp2_with fail
      go_still_tail 16, (by kernel_rfl)
      go_wp2_with fail
      clear q0 q1 q1' q2 q3 q4 q4' c0 c1 c2 f2
      go_roundw
      case rel => exact ⟨i + 1, by omega, by go_num, (KB.out).fr1 FS.out n2, (KS.out).fr1 FS.out n1, (HN.out).drew, (KZ.out).fr1 FS.out n3, Fr0.new HF.out FS.out L7'.out⟩
      case measure => simp [intOf]; omega
    · obtain rfl : i = 16 := by omega
      rw [fillU_all TL.out] at hT
      have hi8 := HI.out
      have hz8 := HZ.out
      obtain ⟨cs, hcs⟩ : ∃ c, c = (byts T).toArray := ⟨_, rfl⟩
      rw [← hcs] at hT hi8 hz8 ha8
      have HCS := Lib.hid hcs
      have KT := Lib.hid hT
      have HI8 := Lib.hid hi8
      have HZ8 := Lib.hid hz8
      clear hB hS hT hZ hF hi8 hz8 hcs
      go_wp2_with (first
        | (refine list_load_blk rfl 31 _ rfl g7 rfl 31 cs KT.out _ Try.underlying31 rfl HI8.out ?_)
        | (refine list_store_blk rfl 31 _ _ rfl g4 cs rfl rfl 31 z KZ.out HI8.out HZ8.out ha8 ?_; intro w5 hB hF; have C5 := Lib.hid hB; have F5 := Lib.hid (Fr0.new HF.out hF LG.out); clear hB hF))
      refine bodyPost_ret (v := .agg cs) (results_cell_row rfl _ _ g4 31 cs (0, 0) _ rfl C5.out Try.underlying31 rfl HI8.out) rfl ⟨by rw [HCS.out], F5.out⟩
end Go.Proofs.Ytpmindbipclphaa
