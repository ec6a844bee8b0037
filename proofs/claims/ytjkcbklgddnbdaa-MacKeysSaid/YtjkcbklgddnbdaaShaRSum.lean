/- The reference's Sum walked. Conditions stand in the statements. -/
import Derived.Test.YtjkcbklgddnbdaaShaRBlock
import Derived.Test.YtjkcbklgddnbdaaShaSumLaw
import Derived.Test.YtjkcbklgddnbdaaSlPut
import Derived.Deep.CutBlock
import Derived.Deep.LoopGhost
set_option linter.unusedSimpArgs false
namespace Go.Proofs.Ytjkcbklgddnbdaa
open Go.RowKit

theorem SlO.cutAt {base k n : Nat} {w : World} {A : Option Addr} {c : Nat} {d : List UInt8} (h : SlO base w (.slice A d.length c) d) (hk : k + n ≤ d.length) (hn : 0 < n) :
    ∃ g off, A = some ⟨g, off, none⟩ ∧ k + n ≤ c ∧ RdB w (.slice (some ⟨g, off + k, none⟩) n (c - k)) ((d.drop k).take n) := by
  rcases h with ⟨hv, rfl⟩ | ⟨g, off, c', cur, hv, hb, hg, h1, h2, h3, h4⟩
  · simp at hk; omega
  · injection hv with hA _ hc
    subst hA hc
    have hl : ((d.drop k).take n).length = n := by rw [List.length_take, List.length_drop]; omega
    refine ⟨g, off, rfl, by omega, byts_len _, ⟨_, c - k, by rw [hl], by rw [hl]; omega, by omega, fun h => by cases h⟩, fun _ => ⟨g, off + k, c - k, cur, _, _, by rw [hl], hg, fun j u hu => ?_⟩⟩
    rw [Nat.add_assoc]
    refine h4 (k + j) u ?_
    have hj : j < n := by
      rcases Nat.lt_or_ge j n with h | h
      · exact h
      · rw [List.getElem?_eq_none (by rw [byts_len, hl]; omega)] at hu; cases hu
    rw [byts, List.getElem?_map, List.getElem?_take, if_pos hj, List.getElem?_drop] at hu
    rw [byts, List.getElem?_map]
    exact hu
theorem sl_part (w : World) (g off n c k : Nat) (hk : k + 64 ≤ c) : (Instr.slice 22 (.slice (some ⟨g, off, none⟩) n c) (some (.int .i64 (k : Int))) (some (.int .i64 ((k : Int) + 64))) none).run Try.prog w = .ok (.slice (some ⟨g, off + k, none⟩) 64 (c - k)) w := by
  have ht := Try.underlying22
  have hel : Try.prog.elem 22 = 5 := by simp [Program.elem, ht]
  rw [run_slice_lh (w := w) 22 (some ⟨g, off, none⟩) n c (by rw [hel]; exact ht) .i64 .i64 (k : Int) ((k : Int) + 64) (by omega) (by omega) (by omega), hel]
  have hs : (sizeOf 5).run Try.prog w = .ok 1 w := by
    obtain ⟨i, hi, _, hz1, _⟩ := info_parts infoB
    simp [sizeOf, typeInfo, hi, hz1]
  rw [hs]
  have hadd : (⟨g, off, none⟩ : Addr).add k = ⟨g, off + k, none⟩ := Addr.add_mid g off k
  show Result.ok (sliced (some ⟨g, off, none⟩) (k : Int).toNat ((k : Int) + 64).toNat c 1) w = _
  unfold sliced
  rw [Int.toNat_natCast, show ((k : Int) + 64).toNat = k + 64 by omega, if_neg (by omega), Option.map_some, Nat.mul_one, hadd, show k + 64 - k = 64 by omega]
set_option maxHeartbeats 8000000 in
set_option maxRecDepth 100000 in
theorem rsum_any {v : Value} {b : List UInt8} {w : World} (h : RdB w v b) (hl : b.length ≤ 900000) :
    Calls Try.prog 18 #[v] w fun e w' => e = .returned (.agg (byts (shaN b)).toArray) ∧ Fr0 w w' := by
  obtain ⟨Av, cv, rfl, hb1, hb2, hb3⟩ := h.form
  obtain ⟨nb, hnb⟩ : ∃ n, n = b.length := ⟨_, rfl⟩
  rw [← hnb] at h hl hb1
  have HR := Lib.hid h
  have HNB := Lib.hid hnb
  obtain ⟨z32, hz32⟩ : ∃ z, z = (byts (List.replicate 32 0)).toArray := ⟨_, rfl⟩
  have hrun : ∀ W : World, (Instr.alloc 25 true (.tuple #[])).run Try.prog W = .ok (.pointer (some ⟨W.heap.size, 0, none⟩)) (W.alloc (.cells z32 25)) := by rw [hz32]; exact fun _ => by kernel_rfl
  have HRUN := Lib.hid hrun
  have HZ := Lib.hid hz32
  have HRUN8 := Lib.hid (fun W : World => show (Instr.alloc 48 true (.tuple #[])).run Try.prog W = .ok (.pointer (some ⟨W.heap.size, 0, none⟩)) (W.alloc (.cells (wA 8 []) 48)) from by kernel_rfl)
  have HRUN64 := Lib.hid (fun W : World => show (Instr.alloc 50 true (.tuple #[])).run Try.prog W = .ok (.pointer (some ⟨W.heap.size, 0, none⟩)) (W.alloc (.cells (wA 64 []) 50)) from by kernel_rfl)
  have HS := Lib.hid (fun (k : Nat) (W : World) => rstart_any (k : Int) W)
  have HT := Lib.hid (fun W => rturns_any W)
  clear h hz32 hrun hnb
  rw [← HNB.out]
  go_enter Try.func18, Try.ntmps18
  go_upto_region 3 with (first
    | (refine list_alloc_blk rfl 25 rfl z32 HRUN.out ?_; intro g2 w0 hB hF hl2; have B2 := Lib.hid hB; have F0 := Lib.hid hF; have L2 := Lib.hid hl2; clear hB hF hl2)
    | (refine list_append_sl (base := w.heap.size) (d := []) (e := b) rfl _ _ rfl (SlO.new0 (F0.out).size) rfl (Nat.le_trans (F0.out).size (by simp)) ((HR.out).fr0 ((F0.out).alloc _)) rfl (by rw [← HNB.out]; simp; omega) ?_; intro A1 c1 w1 hS hF hK; have S1 := Lib.hid (show SlO w.heap.size w1 (.slice A1 nb c1) b from by rw [HNB.out]; exact hS); have F1 := Lib.hid ((SlO.new0 (F0.out).size).thenFr ((F0.out).alloc _) hF); have B3 := Lib.hid ((((B2.out).alloc _).fr hF (fun hk => by cases hk; exact absurd (B2.out).lt (Nat.lt_irrefl _)))); rw [show ([] : List UInt8).length + b.length = nb from by rw [HNB.out]; exact Nat.zero_add _]; clear hS hF hK)
    | (refine list_append_sl (base := w.heap.size) (d := b) (e := [128]) rfl _ _ rfl ((S1.out).fr0 ((Fr0.refl w1).alloc _)) rfl ?_ ?_ rfl ?_ ?_; · (have := (F1.out).size; simp; omega)
       · exact lit_bytes w1 5 [128] (by simp) (0, 0)
       · (have := HNB.out; simp; omega)
       intro A2 c2 w2 hS hF hK; have S2 := Lib.hid hS; have B4 := Lib.hid (((B3.out).alloc _).fr hF (fun hk => (S1.out).ne B3.out (by decide) _ hk rfl)); have F2 := Lib.hid (((S1.out).fr0 ((Fr0.refl w1).alloc _)).thenFr ((F1.out).alloc _) (show Fr (inBlk (.slice A1 nb c1)) _ w2 from hF)); rw [show b.length + [(128 : UInt8)].length = nb + 1 from by rw [HNB.out]; rfl]; clear hS hF hK))
  have hl2 := L2.out
  go_wp2_with fail
  go_loopg [3] (padN nb) (fun gk v3 wr => ∃ (j : Nat) (A : Option Addr) (m c : Nat), j + gk = padN nb ∧ m = nb + 1 + j ∧ v3 = .slice A m c ∧ SlO w.heap.size wr (.slice A m c) (b ++ 128 :: List.replicate j 0) ∧ Blk wr g2 z32 25 ∧ Fr0 w wr)
  case atStart =>
    refine ⟨0, A2, nb + 1, c2, by omega, rfl, rfl, ?_, B4.out, F2.out⟩
    have h := S2.out
    rw [show (b ++ [(128 : UInt8)]).length = nb + 1 from by rw [HNB.out]; simp] at h
    exact h
  case round =>
    obtain ⟨j, A, m, c, hj, hm, rfl, hS, hB, hF⟩ := hrel
    have HS1 := Lib.hid hS
    have HB := Lib.hid hB
    have HF := Lib.hid hF
    have hp64 : padN nb < 64 := by unfold padN; omega
    have hm0 : (0 : Int) ≤ (m : Int) := by omega
    have t1 : (m : Int).tmod 64 = ((m % 64 : Nat) : Int) := by rw [Int.tmod_eq_emod_of_nonneg hm0]; omega
    have hmb : m ≤ 900064 := by omega
    by_cases hlt : 0 < gk
    · have hne : m % 64 ≠ 56 := by rw [hm]; exact pad_not nb j (by omega)
      have q1 : (((m % 64 : Nat) : Int) != 56) = true := by simp; omega
      have q2 : (m % 64 != 56) = true := by simpa using hne
      have HJ := Lib.hid hj
      have HM := Lib.hid hm
      have HGK := Lib.hid hlt
      have HML := Lib.hid (show m = (b ++ 128 :: List.replicate j 0).length by rw [hm]; have := HNB.out; simp; omega)
      have HMB := Lib.hid hmb
      clear hj hm hS hB hF hlt hne hmb
      go_wp2_with (first
        | (refine list_append_sl (base := w.heap.size) (d := b ++ 128 :: List.replicate j 0) (e := [0]) rfl _ _ rfl ((HS1.out).fr0 ((Fr0.refl wr).alloc _)) rfl ?_ ?_ rfl ?_ ?_; · (have := (HF.out).size; simp; omega)
           · exact lit_bytes wr 5 [0] (by simp) (0, 0)
           · (have h1 := HML.out; have h2 := HMB.out; rw [← h1]; simp; omega)
           intro A3 c3 w3 hS hF hK; have S3 := Lib.hid hS; have B3' := Lib.hid (((HB.out).alloc _).fr hF (fun hk => (HS1.out).ne HB.out (by decide) _ hk rfl)); have F3 := Lib.hid (((HS1.out).fr0 ((Fr0.refl wr).alloc _)).thenFr ((HF.out).alloc _) hF); rw [show (b ++ (128 : UInt8) :: List.replicate j (0 : UInt8)).length + [(0 : UInt8)].length = m + 1 from by rw [← HML.out]; rfl]; clear hS hF hK))
      go_roundg (gk - 1)
      case measure => have := HGK.out; omega
      case rel =>
        have h := S3.out
        have hj := HJ.out
        have hm := HM.out
        have hgk := HGK.out
        rw [show (b ++ 128 :: List.replicate j 0) ++ [0] = b ++ 128 :: List.replicate (j + 1) 0 from by rw [List.append_assoc, List.cons_append, ← List.replicate_succ']] at h
        rw [show (b ++ (128 : UInt8) :: List.replicate (j + 1) (0 : UInt8)).length = m + 1 from by rw [hm]; have := HNB.out; simp; omega] at h
        exact ⟨j + 1, A3, m + 1, c3, by omega, by omega, rfl, h, B3'.out, F3.out⟩
    · have hj0 : j = padN nb := by omega
      subst hj0
      have hm56 : m % 64 = 56 := by rw [hm]; exact pad_end nb
      have q1 : (((m % 64 : Nat) : Int) != 56) = false := by rw [hm56]; rfl
      have q2 : (m % 64 != 56) = false := by rw [hm56]; rfl
      have q3 : ((m : Int) % 64 != 56) = false := by rw [show (m : Int) % 64 = 56 by omega]; rfl
      have HML := Lib.hid (show m = (b ++ 128 :: List.replicate (padN nb) 0).length by rw [hm]; have := HNB.out; simp; omega)
      have HMV := Lib.hid hm
      clear hj hm hS hB hF hlt hm56 S1 B3 F1 S2 B4 F2 F0 B2 L2
      go_wp2_with fail
      go_loopw [3, 5] (fun v3 v5 wr => ∃ (k : Nat) (i : Int) (A : Option Addr) (m2 c : Nat), k ≤ 8 ∧ v5 = .int .i64 i ∧ Hid (i = 7 - (k : Int)) ∧ Hid (m2 = m + k) ∧ v3 = .slice A m2 c ∧ SlO w.heap.size wr (.slice A m2 c) (b ++ 128 :: (List.replicate (padN nb) 0 ++ (lenB nb).take k)) ∧ Blk wr g2 z32 25 ∧ Fr0 w wr) (fun _ v5 _ => (intOf v5 + 1).toNat)
      case atStart =>
        refine ⟨0, 7, A, m, c, by omega, rfl, Lib.hid rfl, Lib.hid rfl, rfl, ?_, HB.out, HF.out⟩
        have h := HS1.out
        rw [List.take_zero, List.append_nil]
        exact h
      case round =>
        obtain ⟨k, i, A4, m2, c4, hk, rfl, hi, hm2, rfl, hS, hB, hF⟩ := hrel
        have KS := Lib.hid hS
        have KB := Lib.hid hB
        have KF := Lib.hid hF
        by_cases hlt : k < 8
        · have LB := Lib.hid (lenB_at nb k hlt (by omega))
          have BI := Lib.hid (byte_int (nb * 8 / 2 ^ (56 - 8 * k)))
          obtain ⟨dd, hdd⟩ : ∃ dd, dd = b ++ 128 :: (List.replicate (padN nb) 0 ++ (lenB nb).take k) := ⟨_, rfl⟩
          have hdl : dd.length = m2 := by
            have h8 : ((lenB nb).take k).length = k := by rw [List.length_take, lenB_len]; omega
            rw [hdd, hm2.out, HML.out]
            simp only [List.length_append, List.length_cons, List.length_replicate, h8]
            omega
          have hm2b : m2 ≤ 900080 := by rw [hm2.out]; omega
          rw [← hdd] at KS
          obtain ⟨bk, hbk⟩ : ∃ x, x = UInt8.ofNat (nb * 8 / 2 ^ (56 - 8 * k)) := ⟨_, rfl⟩
          rw [← hbk] at LB BI
          have HDD := Lib.hid hdd
          have HDL := Lib.hid hdl
          have HM2 := Lib.hid hm2b
          have hii := hi.out
          have hbi := BI.out
          have KP := Lib.hid (fun (A5 : Option Addr) (c5 : Nat) (w5 : World) (h : SlO w.heap.size w5 (.slice A5 (dd ++ [bk]).length c5) (dd ++ [bk])) => show SlO w.heap.size w5 (.slice A5 (m2 + 1) c5) (b ++ 128 :: (List.replicate (padN nb) 0 ++ (lenB nb).take (k + 1))) from by
            have e : dd ++ [bk] = b ++ 128 :: (List.replicate (padN nb) 0 ++ (lenB nb).take (k + 1)) := by
              rw [HDD.out, LB.out]; simp
            have e2 : (dd ++ [bk]).length = m2 + 1 := by simp [HDL.out]
            rw [e2] at h
            rw [← e]
            exact h)
          clear hS hB hF hk hdd hdl hm2b hbk t1 q1 q2 q3
          rcases (by omega : k = 0 ∨ k = 1 ∨ k = 2 ∨ k = 3 ∨ k = 4 ∨ k = 5 ∨ k = 6 ∨ k = 7) with rfl | rfl | rfl | rfl | rfl | rfl | rfl | rfl
          · obtain rfl : i = 7 := by omega
            have ev : (nb : Int) * 8 / 72057594037927936 = (bk.toNat : Int) := by rw [hbi]; omega
            clear hi hii hbi BI hlt
            go_wp2_with (first
              | (refine list_append_sl (base := w.heap.size) (d := dd) (e := [bk]) rfl _ _ rfl ((KS.out).fr0 ((Fr0.refl wr).alloc _)) rfl ?_ ?_ rfl ?_ ?_; · (have := (KF.out).size; simp; omega)
                 · exact lit_bytes wr 5 [bk] (by simp) (0, 0)
                 · (have h1 := HDL.out; have h2 := HM2.out; rw [h1]; simp; omega)
                 intro A5 c5 w5 hS hF hK; have S5 := Lib.hid (KP.out _ _ _ hS); have B5 := Lib.hid (((KB.out).alloc _).fr hF (fun hk => (KS.out).ne KB.out (by decide) _ hk rfl)); have F5 := Lib.hid (((KS.out).fr0 ((Fr0.refl wr).alloc _)).thenFr ((KF.out).alloc _) hF); rw [show dd.length + [bk].length = m2 + 1 from by rw [HDL.out]; rfl]; clear hS hF hK))
            go_roundw
            case measure => simp [intOf]
            case rel => exact ⟨1, 6, A5, m2 + 1, c5, by omega, rfl, Lib.hid (by decide), Lib.hid (by rw [hm2.out]), rfl, S5.out, B5.out, F5.out⟩
          · obtain rfl : i = 6 := by omega
            have ev : (nb : Int) * 8 / 281474976710656 = (bk.toNat : Int) := by rw [hbi]; omega
            clear hi hii hbi BI hlt
            go_wp2_with (first
              | (refine list_append_sl (base := w.heap.size) (d := dd) (e := [bk]) rfl _ _ rfl ((KS.out).fr0 ((Fr0.refl wr).alloc _)) rfl ?_ ?_ rfl ?_ ?_; · (have := (KF.out).size; simp; omega)
                 · exact lit_bytes wr 5 [bk] (by simp) (0, 0)
                 · (have h1 := HDL.out; have h2 := HM2.out; rw [h1]; simp; omega)
                 intro A5 c5 w5 hS hF hK; have S5 := Lib.hid (KP.out _ _ _ hS); have B5 := Lib.hid (((KB.out).alloc _).fr hF (fun hk => (KS.out).ne KB.out (by decide) _ hk rfl)); have F5 := Lib.hid (((KS.out).fr0 ((Fr0.refl wr).alloc _)).thenFr ((KF.out).alloc _) hF); rw [show dd.length + [bk].length = m2 + 1 from by rw [HDL.out]; rfl]; clear hS hF hK))
            go_roundw
            case measure => simp [intOf]
            case rel => exact ⟨2, 5, A5, m2 + 1, c5, by omega, rfl, Lib.hid (by decide), Lib.hid (by rw [hm2.out]), rfl, S5.out, B5.out, F5.out⟩
          · obtain rfl : i = 5 := by omega
            have ev : (nb : Int) * 8 / 1099511627776 = (bk.toNat : Int) := by rw [hbi]; omega
            clear hi hii hbi BI hlt
            go_wp2_with (first
              | (refine list_append_sl (base := w.heap.size) (d := dd) (e := [bk]) rfl _ _ rfl ((KS.out).fr0 ((Fr0.refl wr).alloc _)) rfl ?_ ?_ rfl ?_ ?_; · (have := (KF.out).size; simp; omega)
                 · exact lit_bytes wr 5 [bk] (by simp) (0, 0)
                 · (have h1 := HDL.out; have h2 := HM2.out; rw [h1]; simp; omega)
                 intro A5 c5 w5 hS hF hK; have S5 := Lib.hid (KP.out _ _ _ hS); have B5 := Lib.hid (((KB.out).alloc _).fr hF (fun hk => (KS.out).ne KB.out (by decide) _ hk rfl)); have F5 := Lib.hid (((KS.out).fr0 ((Fr0.refl wr).alloc _)).thenFr ((KF.out).alloc _) hF); rw [show dd.length + [bk].length = m2 + 1 from by rw [HDL.out]; rfl]; clear hS hF hK))
            go_roundw
            case measure => simp [intOf]
            case rel => exact ⟨3, 4, A5, m2 + 1, c5, by omega, rfl, Lib.hid (by decide), Lib.hid (by rw [hm2.out]), rfl, S5.out, B5.out, F5.out⟩
          · obtain rfl : i = 4 := by omega
            have ev : (nb : Int) * 8 / 4294967296 = (bk.toNat : Int) := by rw [hbi]; omega
            clear hi hii hbi BI hlt
            go_wp2_with (first
              | (refine list_append_sl (base := w.heap.size) (d := dd) (e := [bk]) rfl _ _ rfl ((KS.out).fr0 ((Fr0.refl wr).alloc _)) rfl ?_ ?_ rfl ?_ ?_; · (have := (KF.out).size; simp; omega)
                 · exact lit_bytes wr 5 [bk] (by simp) (0, 0)
                 · (have h1 := HDL.out; have h2 := HM2.out; rw [h1]; simp; omega)
                 intro A5 c5 w5 hS hF hK; have S5 := Lib.hid (KP.out _ _ _ hS); have B5 := Lib.hid (((KB.out).alloc _).fr hF (fun hk => (KS.out).ne KB.out (by decide) _ hk rfl)); have F5 := Lib.hid (((KS.out).fr0 ((Fr0.refl wr).alloc _)).thenFr ((KF.out).alloc _) hF); rw [show dd.length + [bk].length = m2 + 1 from by rw [HDL.out]; rfl]; clear hS hF hK))
            go_roundw
            case measure => simp [intOf]
            case rel => exact ⟨4, 3, A5, m2 + 1, c5, by omega, rfl, Lib.hid (by decide), Lib.hid (by rw [hm2.out]), rfl, S5.out, B5.out, F5.out⟩
          · obtain rfl : i = 3 := by omega
            have ev : (nb : Int) * 8 / 16777216 = (bk.toNat : Int) := by rw [hbi]; omega
            clear hi hii hbi BI hlt
            go_wp2_with (first
              | (refine list_append_sl (base := w.heap.size) (d := dd) (e := [bk]) rfl _ _ rfl ((KS.out).fr0 ((Fr0.refl wr).alloc _)) rfl ?_ ?_ rfl ?_ ?_; · (have := (KF.out).size; simp; omega)
                 · exact lit_bytes wr 5 [bk] (by simp) (0, 0)
                 · (have h1 := HDL.out; have h2 := HM2.out; rw [h1]; simp; omega)
                 intro A5 c5 w5 hS hF hK; have S5 := Lib.hid (KP.out _ _ _ hS); have B5 := Lib.hid (((KB.out).alloc _).fr hF (fun hk => (KS.out).ne KB.out (by decide) _ hk rfl)); have F5 := Lib.hid (((KS.out).fr0 ((Fr0.refl wr).alloc _)).thenFr ((KF.out).alloc _) hF); rw [show dd.length + [bk].length = m2 + 1 from by rw [HDL.out]; rfl]; clear hS hF hK))
            go_roundw
            case measure => simp [intOf]
            case rel => exact ⟨5, 2, A5, m2 + 1, c5, by omega, rfl, Lib.hid (by decide), Lib.hid (by rw [hm2.out]), rfl, S5.out, B5.out, F5.out⟩
          · obtain rfl : i = 2 := by omega
            have ev : (nb : Int) * 8 / 65536 = (bk.toNat : Int) := by rw [hbi]; omega
            clear hi hii hbi BI hlt
            go_wp2_with (first
              | (refine list_append_sl (base := w.heap.size) (d := dd) (e := [bk]) rfl _ _ rfl ((KS.out).fr0 ((Fr0.refl wr).alloc _)) rfl ?_ ?_ rfl ?_ ?_; · (have := (KF.out).size; simp; omega)
                 · exact lit_bytes wr 5 [bk] (by simp) (0, 0)
                 · (have h1 := HDL.out; have h2 := HM2.out; rw [h1]; simp; omega)
                 intro A5 c5 w5 hS hF hK; have S5 := Lib.hid (KP.out _ _ _ hS); have B5 := Lib.hid (((KB.out).alloc _).fr hF (fun hk => (KS.out).ne KB.out (by decide) _ hk rfl)); have F5 := Lib.hid (((KS.out).fr0 ((Fr0.refl wr).alloc _)).thenFr ((KF.out).alloc _) hF); rw [show dd.length + [bk].length = m2 + 1 from by rw [HDL.out]; rfl]; clear hS hF hK))
            go_roundw
            case measure => simp [intOf]
            case rel => exact ⟨6, 1, A5, m2 + 1, c5, by omega, rfl, Lib.hid (by decide), Lib.hid (by rw [hm2.out]), rfl, S5.out, B5.out, F5.out⟩
          · obtain rfl : i = 1 := by omega
            have ev : ((nb : Int) * 8 / 256) % 256 = (bk.toNat : Int) := by rw [hbi]; omega
            clear hi hii hbi BI hlt
            go_wp2_with (first
              | (refine list_append_sl (base := w.heap.size) (d := dd) (e := [bk]) rfl _ _ rfl ((KS.out).fr0 ((Fr0.refl wr).alloc _)) rfl ?_ ?_ rfl ?_ ?_; · (have := (KF.out).size; simp; omega)
                 · exact lit_bytes wr 5 [bk] (by simp) (0, 0)
                 · (have h1 := HDL.out; have h2 := HM2.out; rw [h1]; simp; omega)
                 intro A5 c5 w5 hS hF hK; have S5 := Lib.hid (KP.out _ _ _ hS); have B5 := Lib.hid (((KB.out).alloc _).fr hF (fun hk => (KS.out).ne KB.out (by decide) _ hk rfl)); have F5 := Lib.hid (((KS.out).fr0 ((Fr0.refl wr).alloc _)).thenFr ((KF.out).alloc _) hF); rw [show dd.length + [bk].length = m2 + 1 from by rw [HDL.out]; rfl]; clear hS hF hK))
            go_roundw
            case measure => simp [intOf]
            case rel => exact ⟨7, 0, A5, m2 + 1, c5, by omega, rfl, Lib.hid (by decide), Lib.hid (by rw [hm2.out]), rfl, S5.out, B5.out, F5.out⟩
          · obtain rfl : i = 0 := by omega
            have ev : ((nb : Int) * 8) % 256 = (bk.toNat : Int) := by rw [hbi]; omega
            clear hi hii hbi BI hlt
            go_wp2_with (first
              | (refine list_append_sl (base := w.heap.size) (d := dd) (e := [bk]) rfl _ _ rfl ((KS.out).fr0 ((Fr0.refl wr).alloc _)) rfl ?_ ?_ rfl ?_ ?_; · (have := (KF.out).size; simp; omega)
                 · exact lit_bytes wr 5 [bk] (by simp) (0, 0)
                 · (have h1 := HDL.out; have h2 := HM2.out; rw [h1]; simp; omega)
                 intro A5 c5 w5 hS hF hK; have S5 := Lib.hid (KP.out _ _ _ hS); have B5 := Lib.hid (((KB.out).alloc _).fr hF (fun hk => (KS.out).ne KB.out (by decide) _ hk rfl)); have F5 := Lib.hid (((KS.out).fr0 ((Fr0.refl wr).alloc _)).thenFr ((KF.out).alloc _) hF); rw [show dd.length + [bk].length = m2 + 1 from by rw [HDL.out]; rfl]; clear hS hF hK))
            go_roundw
            case measure => simp [intOf]
            case rel => exact ⟨8, -1, A5, m2 + 1, c5, by omega, rfl, Lib.hid (by decide), Lib.hid (by rw [hm2.out]), rfl, S5.out, B5.out, F5.out⟩
        · obtain rfl : k = 8 := by omega
          have hi8 := hi.out
          obtain rfl : i = -1 := by omega
          have hm8 := hm2.out
          have hpl := padded_len b
          have hplen : m2 = (padded b).length := by
            unfold padded
            rw [hm8, HML.out, HNB.out]
            simp only [List.length_append, List.length_cons, List.length_replicate, lenB_len]
            omega
          have HPD := Lib.hid (show SlO w.heap.size wr (.slice A4 m2 c4) (padded b) from by
            have h := KS.out
            rw [show (lenB nb).take 8 = lenB nb from rfl] at h
            unfold padded
            rw [← HNB.out]
            exact h)
          have hm2b : m2 ≤ 900080 := by omega
          obtain ⟨nbk, hnbk⟩ : ∃ n, n = m2 / 64 := ⟨_, rfl⟩
          have hmn : m2 = 64 * nbk := by rw [hnbk]; omega
          have HPL := Lib.hid hplen
          have HMN := Lib.hid hmn
          have HM2B := Lib.hid hm2b
          clear hi hi8 hm2 hlt hk hS hB hF hm8 hpl hplen hm2b hnbk hmn KS HS1 HML HMV t1 q1 q2 q3 hmb
          go_upto_region 11 with (refine list_alloc_blk rfl 48 rfl (wA 8 []) HRUN8.out ?_; intro g6 w6 hB hF hl6; have B6 := Lib.hid hB; have P6 := Lib.hid ((HPD.out).fr0 hF); have G6 := Lib.hid ((KB.out).fr0 hF); have F6 := Lib.hid (Fr0.trans KF.out hF); have L6 := Lib.hid hl6; have z6 := hF.size; clear hB hF hl6)
          have hg26 := (KB.out).lt
          have hl6 := L6.out
          have hwr := (KF.out).size
          go_wp2_with fail
          go_loopw [7] (fun v7 wq => ∃ k : Nat, k ≤ 8 ∧ v7 = .int .i64 k ∧ SlO w.heap.size wq (.slice A4 m2 c4) (padded b) ∧ Blk wq g6 (wA 8 (startL.take k)) 48 ∧ Blk wq g2 z32 25 ∧ Fr0 w wq ∧ w6.heap.size ≤ wq.heap.size) (fun v7 _ => 8 - (intOf v7).toNat)
          case atStart => exact ⟨0, by omega, rfl, P6.out, by have h := B6.out; exact h, G6.out, F6.out, Nat.le_refl _⟩
          case round =>
            obtain ⟨k, hk, rfl, hP, hB, hG, hF, hz⟩ := hrel
            have QP := Lib.hid hP
            have QB := Lib.hid hB
            have QG := Lib.hid hG
            have QF := Lib.hid hF
            by_cases hlt : k < 8
            · have e1 : startI k = (startN k : Int) := startI_at k (by omega)
              have HSK := Lib.hid (fun W => HS.out k W)
              rw [e1] at HSK
              have i0 : (0 : Int) ≤ (k : Int) := by omega
              have i1 : (k : Int) < 8 := by omega
              clear hP hB hG hF e1
              go_wp2_with (go_at_call 27; refine (HSK.out _).mono ?_; rintro e w7 ⟨rfl, hf⟩; have P7 := Lib.hid ((QP.out).fr0 hf); have B7 := Lib.hid ((QB.out).fr0 hf); have G7 := Lib.hid ((QG.out).fr0 hf); have F7 := Lib.hid (Fr0.trans QF.out hf); have z7 := Nat.le_trans hz hf.size; have d7 := (B7.out).cell k (wA_at hlt); have f7 := (B7.out).free k; clear hf)
              go_roundw
              case measure => simp [intOf]; omega
              case rel =>
                have hB := (B7.out).set k (.int .u32 (startN k : Int))
                have hl : (startL.take k).length = k := by rw [List.length_take, startL_len]; omega
                have hp := wA_push (n := 8) (l := startL.take k) (by omega) (startN k)
                rw [hl] at hp
                rw [hp, ← startL_at hlt] at hB
                have fr := (Fr1.refl g6 w7).set k (.int .u32 (startN k : Int))
                exact ⟨k + 1, by omega, by go_num, (P7.out).fr1 fr B7.out (by decide), hB, (G7.out).fr1 fr (by omega), Fr0.new F7.out fr (by omega), Nat.le_trans z7 fr.size⟩
            · obtain rfl : k = 8 := by omega
              have hstart : wA 8 (startL.take 8) = h8c startH := by
                rw [List.take_of_length_le (Nat.le_of_eq startL_len), ← startL_eq]
                rfl
              rw [hstart] at QB
              have hi64 : (Try.prog.info? 50).map (·.size) = some (wA 64 turnL).size := by rw [wA_size (Nat.le_of_eq turnL_len)]; kernel_rfl
              have ho64 : (wA 64 []).size = (wA 64 turnL).size := by rw [wA_size (l := turnL) (Nat.le_of_eq turnL_len), wA_size (l := []) (Nat.zero_le _)]
              have h64 := wA_one 64 turnL
              obtain ⟨ks, hks⟩ : ∃ ks, ks = wA 64 turnL := ⟨_, rfl⟩
              rw [← hks] at HT hi64 ho64 h64
              have HKS := Lib.hid hks
              clear hstart hP hB hG hF hlt hk hks
              go_upto_region 16 with (first
                | (go_at_call 28; refine (HT.out _).mono ?_; rintro e w7 ⟨rfl, hf⟩; have P7 := Lib.hid ((QP.out).fr0 hf); have B7 := Lib.hid ((QB.out).fr0 hf); have G7 := Lib.hid ((QG.out).fr0 hf); have F7 := Lib.hid (Fr0.trans QF.out hf); have z7 := Nat.le_trans hz hf.size; clear hf)
                | (refine list_alloc_blk rfl 50 rfl (wA 64 []) HRUN64.out ?_; intro g8 w8 hB hF hl8; have K8 := Lib.hid hB; have P8 := Lib.hid ((P7.out).fr0 hF); have B8 := Lib.hid ((B7.out).fr0 hF); have G8 := Lib.hid ((G7.out).fr0 hF); have F8 := Lib.hid (Fr0.trans F7.out hF); have L8 := Lib.hid hl8; clear hB hF hl8)
                | (refine list_store_blk rfl 50 _ _ rfl g8 ks rfl rfl 50 (wA 64 []) K8.out hi64 ho64 h64 ?_; intro w9 hB hF; have K9 := Lib.hid hB; have P9 := Lib.hid ((P8.out).fr1 hF K8.out (by decide)); have B9 := Lib.hid ((B8.out).fr1 hF (fun e => by have := (B7.out).lt; have := L8.out; omega)); have G9 := Lib.hid ((G8.out).fr1 hF (fun e => by have := (G7.out).lt; have := L8.out; omega)); have F9 := Lib.hid (Fr0.new F8.out hF (by have := (F7.out).size; have := L8.out; omega)); clear hB hF))
              have h68 : g6 < g8 := by have := (B7.out).lt; have := L8.out; omega
              have h28 : g2 < g8 := by have := (G7.out).lt; have := L8.out; omega
              have h26 : g2 < g6 := by omega
              have hw6 : w.heap.size ≤ g6 := by omega
              have HI64 := Lib.hid hi64
              clear z7 hi64 ho64 h64
              go_wp2_with fail
              go_loopw [9] (fun v9 wq => ∃ (k ki : Nat), k ≤ nbk ∧ v9 = .int .i64 (ki : Int) ∧ Hid (ki = 64 * k) ∧ SlO w.heap.size wq (.slice A4 m2 c4) (padded b) ∧ Blk wq g6 (h8c (blocksN startH (padded b) turnL k)) 48 ∧ Blk wq g8 ks 50 ∧ Blk wq g2 z32 25 ∧ Fr0 w wq) (fun v9 _ => m2 - (intOf v9).toNat)
              case atStart => exact ⟨0, 0, Nat.zero_le _, rfl, Lib.hid rfl, P9.out, B9.out, K9.out, G9.out, F9.out⟩
              case round =>
                obtain ⟨k, ki, hk, rfl, hki, hP, hB, hKK, hG, hF⟩ := hrel
                have hkv := hki.out
                have hpl := HPL.out
                have hmn := HMN.out
                have hmb := HM2B.out
                have i0 : (0 : Int) ≤ (ki : Int) := by omega
                by_cases hlt : k < nbk
                · have UB := Lib.hid (Blk.drew hB)
                  have UK := Lib.hid (Blk.drew hKK)
                  have UP := Lib.hid (hP.fr0 ((Fr0.refl wr).drew))
                  have UG := Lib.hid (Blk.drew hG)
                  have UF := Lib.hid (Fr0.drew hF)
                  have FT := Lib.hid (Fr0.refl wr.drew)
                  have hk64 : ki + 64 ≤ m2 := by omega
                  have hdl : ki + 64 ≤ (padded b).length := by rw [← hpl]; exact hk64
                  obtain ⟨gs, os, hAs, hcs, hrd⟩ := SlO.cutAt (k := ki) (n := 64) (d := padded b) (A := A4) (c := c4) (by have h := UP.out; rw [hpl] at h; exact h) hdl (by omega)
                  subst hAs
                  have HSL := Lib.hid (fun W => sl_part W gs os m2 c4 ki hcs)
                  have hXok := blocksN_ok startH_ok (padded b) turnL k
                  have hl64 : (((padded b).drop ki).take 64).length = 64 := by rw [List.length_take, List.length_drop]; omega
                  have hZe := blocksN_succ startH (padded b) turnL k
                  rw [show k * 64 = ki by omega] at hZe
                  have hZ : ∃ Z, Z = blocksN startH (padded b) turnL (k + 1) := ⟨_, rfl⟩
                  obtain ⟨Z, hZ⟩ := hZ
                  rw [← hZ] at hZe
                  obtain ⟨X, hX⟩ : ∃ X, X = blocksN startH (padded b) turnL k := ⟨_, rfl⟩
                  rw [← hX] at hXok hZe UB
                  have HBK := Lib.hid (fun (W : World) (hf : Fr0 wr.drew W) => show Calls Try.prog 29 #[.agg (h8c X), .slice (some ⟨gs, os + ki, none⟩) 64 (c4 - ki), .agg ks] W (fun e w' => e = .returned (.agg (h8c Z)) ∧ Fr0 W w') from by
                    rw [HKS.out, hZe]
                    exact rblock_any hXok (hrd.fr0 hf) hl64)
                  have HZZ := Lib.hid hZ
                  have hi8 : (Try.prog.info? 48).map (·.size) = some (h8c X).size := by kernel_rfl
                  have hiZ : (Try.prog.info? 48).map (·.size) = some (h8c Z).size := by kernel_rfl
                  have HI8 := Lib.hid hi8
                  have HIZ := Lib.hid hiZ
                  clear hP hB hKK hG hF hkv hpl hmn hdl hcs hrd hXok hl64 hZe hZ hX hi8 hiZ
                  go_wp2_with fail
                  have hi8 := HI8.out
                  have hiZ := HIZ.out
                  have hi64 := HI64.out
                  have hwr64 : IntKind.i64.wrap ((ki : Int) + 64) = (ki : Int) + 64 := IntWalk.i64_in _ (by omega)
                  refine wp_region_held_drew (S := (fun W => Blk W g8 ks 50)) (by kernel_rfl) UK.out (fun hHeld => ?_)
                  have _hI : True := trivial
                  clear _hI
                  refine takeH (i := 1) rfl (by kernel_rfl) (by kernel_rfl) (by kernel_rfl) (fun _ _ _ h => h) (yields_move rfl _ rfl) UK.out ?_
                  try simp only [Act.put, List.setIfInBounds_toArray, List.set_cons_zero, List.set_cons_succ]
                  have _hI : True := trivial
                  clear _hI
                  refine takeH (i := 2) rfl (by kernel_rfl) (by kernel_rfl) (by kernel_rfl) (fun _ _ _ h => h) (yields_move rfl _ rfl) UK.out ?_
                  try simp only [Act.put, List.setIfInBounds_toArray, List.set_cons_zero, List.set_cons_succ]
                  have _hI : True := trivial
                  clear _hI
                  refine takeH (i := 3) rfl (by kernel_rfl) (by kernel_rfl) (by kernel_rfl) (fun _ _ _ h => h) (yields_move rfl _ rfl) UK.out ?_
                  try simp only [Act.put, List.setIfInBounds_toArray, List.set_cons_zero, List.set_cons_succ]
                  have _hI : True := trivial
                  clear _hI
                  refine takeH (i := 4) rfl (by kernel_rfl) (by kernel_rfl) (by kernel_rfl) (fun _ _ _ h => h) (v := .int .i64 ((ki : Int) + 64)) (.inl ⟨rfl, fun W _ => (by go_simp; try rfl)⟩) UK.out ?_
                  try simp only [Act.put, List.setIfInBounds_toArray, List.set_cons_zero, List.set_cons_succ]
                  have _hI : True := trivial
                  clear _hI
                  refine takeH (i := 5) rfl (by kernel_rfl) (by kernel_rfl) (by kernel_rfl) (fun _ _ _ h => h) (v := .slice (some ⟨gs, os + ki, none⟩) 64 (c4 - ki)) (.inl ⟨rfl, fun W _ => (by have h := HSL.out W; go_simp; try rfl)⟩) UK.out ?_
                  try simp only [Act.put, List.setIfInBounds_toArray, List.set_cons_zero, List.set_cons_succ]
                  have _hI : True := trivial
                  clear _hI
                  refine takeH (i := 6) rfl (by kernel_rfl) (by kernel_rfl) (by kernel_rfl) (fun _ _ _ h => h) (yields_load_blk rfl 50 _ rfl g8 rfl 50 ks (fun _ h => h) _ Try.underlying50 rfl hi64) UK.out ?_
                  try simp only [Act.put, List.setIfInBounds_toArray, List.set_cons_zero, List.set_cons_succ]
                  have _hI : True := trivial
                  clear _hI
                  refine wpAnyH_ready (rs := [0]) (by kernel_rfl) (by simp) (consH rfl rfl (fun K hK => ?_) AllReadyH.nil)
                  have _hI : True := trivial
                  clear _hI
                  refine wp_load_blk 48 _ rfl g6 rfl 48 (h8c X) UB.out _ Try.underlying48 rfl hi8 ?_
                  refine hK.out _ _ UK.out ?_
                  clear hK
                  try simp only [Act.put, List.setIfInBounds_toArray, List.set_cons_zero, List.set_cons_succ]
                  have _hI : True := trivial
                  clear _hI
                  refine wpAnyH_ready (rs := [7]) (by kernel_rfl) (by simp) (consH rfl rfl (fun K hK => ?_) AllReadyH.nil)
                  have _hI : True := trivial
                  clear _hI
                  go_simp
                  refine (HBK.out _ FT.out).mono ?_
                  rintro e w6 ⟨rfl, hf⟩
                  replace UB := Lib.hid ((UB.out).fr0 hf)
                  replace UK := Lib.hid ((UK.out).fr0 hf)
                  replace UP := Lib.hid ((UP.out).fr0 hf)
                  replace UG := Lib.hid ((UG.out).fr0 hf)
                  replace UF := Lib.hid (Fr0.trans UF.out hf)
                  clear hf
                  refine hK.out _ _ UK.out ?_
                  clear hK
                  try simp only [Act.put, List.setIfInBounds_toArray, List.set_cons_zero, List.set_cons_succ]
                  have _hI : True := trivial
                  clear _hI
                  refine wpAnyH_ready (rs := [8]) (by kernel_rfl) (by simp) (consH rfl rfl (fun K hK => ?_) AllReadyH.nil)
                  have _hI : True := trivial
                  clear _hI
                  refine wp_store_blk ?qty1 ?qex1 ?qey1 ?qho1 ?qgg1 ?qcc1 ?qhx1 ?qhy1 ?qtt1 ?qold1 ?qhb1 ?qhi1 ?qhd1 ?qh11 ?qre1
                  case qcc1 => exact (h8c Z)
                  case qty1 => exact 48
                  case qtt1 => exact 48
                  case qgg1 => exact g6
                  case qold1 => exact (h8c X)
                  case qex1 => exact (.tmp 6)
                  case qey1 => exact (.tmp 65)
                  case qho1 => rfl
                  case qhb1 => exact UB.out
                  case qhi1 => exact hiZ
                  case qhd1 => rfl
                  case qh11 => exact h8_one Z
                  case qhx1 => rfl
                  case qhy1 => rfl
                  intro V4 hB hf
                  have VB := Lib.hid hB
                  have VK := Lib.hid ((UK.out).fr1 hf (by omega))
                  have VP := Lib.hid ((UP.out).fr1 hf UB.out (by decide))
                  have VG := Lib.hid ((UG.out).fr1 hf (by omega))
                  have VF := Lib.hid (Fr0.new UF.out hf hw6)
                  clear hB hf
                  refine hK.out _ _ VK.out ?_
                  clear hK
                  try simp only [Act.put, List.setIfInBounds_toArray, List.set_cons_zero, List.set_cons_succ]
                  refine wpAnyH_done (by kernel_rfl) ?_ _
                  go_wp2_with fail
                  go_roundw
                  case measure => simp [intOf]; omega
                  case rel =>
                    have hkv := hki.out
                    have h := VB.out
                    rw [HZZ.out] at h
                    exact ⟨k + 1, ki + 64, by omega, by go_num, Lib.hid (by omega), VP.out, h, VK.out, VG.out, VF.out⟩
                · obtain rfl : k = nbk := by omega
                  have q4 : ¬ ((ki : Int) + 64 ≤ (m2 : Int)) := by omega
                  have hXs : blocksN startH (padded b) turnL k = hX (padded b) := by unfold hX; rw [← hpl, hmn]; congr 1; omega
                  rw [hXs] at hB
                  have HSHA := Lib.hid (sha_eq b)
                  obtain ⟨X, hX⟩ : ∃ X, X = hX (padded b) := ⟨_, rfl⟩
                  rw [← hX] at hB HSHA
                  have UB := Lib.hid hB
                  have UG := Lib.hid hG
                  have UF := Lib.hid hF
                  have zl32 := Lib.hid (outB_len X)
                  have HZA := Lib.hid (fun a b (ha : a < 8) (hb : b < 4) => outB_at X a b ha hb)
                  obtain ⟨zl, hzl⟩ : ∃ zl, zl = outB X := ⟨_, rfl⟩
                  rw [← hzl] at zl32 HZA HSHA
                  obtain ⟨yl, hyl⟩ : ∃ yl : List UInt8, yl = List.replicate 32 0 := ⟨_, rfl⟩
                  have yl32 := Lib.hid (show yl.length = 32 by rw [hyl]; rfl)
                  have hz2 := HZ.out
                  rw [← hyl] at hz2
                  have HZ2 := Lib.hid hz2
                  have q5 : decide ((ki : Int) + 64 ≤ (m2 : Int)) = false := decide_eq_false q4
                  have q6 : decide (ki + 64 ≤ m2) = false := by simp; omega
                  have q7 : m2 < ki + 64 := by omega
                  have q8 : ki ≤ 900080 := by omega
                  clear hkv hpl hmn hXs hX hzl hyl hz2 hP hB hKK hG hF hlt hk q4 hki
                  go_upto_region 21 with (refine list_alloc_blk rfl 25 rfl z32 HRUN.out ?_; intro g10 w10 hB hF hl10; have B10 := Lib.hid hB; have H10 := Lib.hid ((UB.out).fr0 hF); have G10 := Lib.hid ((UG.out).fr0 hF); have F10 := Lib.hid (Fr0.trans UF.out hF); have L10 := Lib.hid hl10; clear hB hF hl10)
                  have h610 : g6 < g10 := by have := (UB.out).lt; have := L10.out; omega
                  have h210 : g2 < g10 := by omega
                  have hw10 : w.heap.size ≤ g10 := by omega
                  go_wp2_with fail
                  go_loopw [11] (fun v11 wr => ∃ i : Nat, i ≤ 32 ∧ v11 = .int .i64 i ∧ Blk wr g10 (byts (zl.take i ++ yl.drop i)).toArray 25 ∧ Blk wr g6 (h8c X) 48 ∧ Blk wr g2 z32 25 ∧ Fr0 w wr) (fun v11 _ => 32 - (intOf v11).toNat)
                  case atStart => exact ⟨0, by omega, rfl, by have h := B10.out; rw [HZ2.out] at h; exact h, H10.out, G10.out, F10.out⟩
                  case round =>
                    obtain ⟨i, hi, rfl, h10, hp, h2, hfs⟩ := hrel
                    by_cases hlt : i < 32
                    · obtain ⟨a, b4, ha, hb4, hab⟩ : ∃ a b, a < 8 ∧ b < 4 ∧ i = 4 * a + b := ⟨i / 4, i % 4, by omega, by omega, by omega⟩
                      have P2 := Lib.hid hp
                      have G2 := Lib.hid h2
                      have FS := Lib.hid hfs
                      have i0 : (0 : Int) ≤ (i : Int) := by omega
                      have i1 : (i : Int) < 32 := by omega
                      have j0 : (0 : Int) ≤ (a : Int) := by omega
                      have j1 : (a : Int) < 8 := by omega
                      have t1 : (i : Int) / 4 = (a : Int) := by omega
                      have t2 : (i : Int) % 4 = (b4 : Int) := by omega
                      have t3 : (i : Int).tdiv 4 = (a : Int) := by rw [Int.tdiv_eq_ediv_of_nonneg i0]; exact t1
                      have t4 : (i : Int).tmod 4 = (b4 : Int) := by rw [Int.tmod_eq_emod_of_nonneg i0]; exact t2
                      have d0 := hp.cell a (v := .int .u32 ((X.list.getD a 0 : Nat) : Int)) (by rw [← h8_wA]; exact wA_at ha)
                      obtain ⟨o6, e6⟩ : ∃ o6, wr.cell? ⟨g10, i, none⟩ = some o6 := ⟨_, h10.cell i (Array.getElem?_eq_getElem (by rw [byts_size, List.length_append, List.length_take, List.length_drop, zl32.out, yl32.out]; omega))⟩
                      have f6 := h10.free i
                      have HBK := Lib.hid (show zl.getD i 0 = UInt8.ofNat (X.list.getD a 0 / 2 ^ (24 - 8 * b4)) by rw [hab]; exact (HZA.out) a b4 ha hb4)
                      obtain ⟨xa, hxa⟩ : ∃ xa, xa = X.list.getD a 0 := ⟨_, rfl⟩
                      rw [← hxa] at d0 HBK
                      have HN := Lib.hid (fun (bk : UInt8) (hlt : i < 32) (hbk : bk = zl.getD i 0) => show Blk (wr.setCell ⟨g10, i, none⟩ (.int .u8 (bk.toNat : Int))) g10 (byts (zl.take (i + 1) ++ yl.drop (i + 1))).toArray 25 from by
                        have h := h10.set i (.int .u8 (bk.toNat : Int))
                        rw [hbk, bhalf_set zl32.out yl32.out hlt] at h
                        rw [hbk]
                        exact h)
                      obtain ⟨bk, hbk⟩ : ∃ bk, bk = zl.getD i 0 := ⟨_, rfl⟩
                      rw [← hbk] at HBK
                      have HBE := Lib.hid hbk
                      clear hbk hxa h10 hp h2 hfs ha
                      rcases (by omega : b4 = 0 ∨ b4 = 1 ∨ b4 = 2 ∨ b4 = 3) with hb | hb | hb | hb
                      · obtain rfl : b4 = 0 := by omega
                        have ev : ((xa : Int) / 16777216) % 256 = (bk.toNat : Int) := by rw [HBK.out, byte_int]; omega
                        clear hab hb4
                        go_wp2_with fail
                        go_roundw
                        case measure => simp [intOf]; omega
                        case rel => exact ⟨i + 1, by omega, by go_num, HN.out _ hlt HBE.out, (P2.out).other (p := ⟨g10, i, none⟩) (by show g6 ≠ g10; omega) _, (G2.out).other (p := ⟨g10, i, none⟩) (by show g2 ≠ g10; omega) _, Fr.setCell (p := ⟨g10, i, none⟩) FS.out (.inr hw10) _⟩
                      · obtain rfl : b4 = 1 := by omega
                        have ev : ((xa : Int) / 65536) % 256 = (bk.toNat : Int) := by rw [HBK.out, byte_int]; omega
                        clear hab hb4
                        go_wp2_with fail
                        go_roundw
                        case measure => simp [intOf]; omega
                        case rel => exact ⟨i + 1, by omega, by go_num, HN.out _ hlt HBE.out, (P2.out).other (p := ⟨g10, i, none⟩) (by show g6 ≠ g10; omega) _, (G2.out).other (p := ⟨g10, i, none⟩) (by show g2 ≠ g10; omega) _, Fr.setCell (p := ⟨g10, i, none⟩) FS.out (.inr hw10) _⟩
                      · obtain rfl : b4 = 2 := by omega
                        have ev : ((xa : Int) / 256) % 256 = (bk.toNat : Int) := by rw [HBK.out, byte_int]; omega
                        clear hab hb4
                        go_wp2_with fail
                        go_roundw
                        case measure => simp [intOf]; omega
                        case rel => exact ⟨i + 1, by omega, by go_num, HN.out _ hlt HBE.out, (P2.out).other (p := ⟨g10, i, none⟩) (by show g6 ≠ g10; omega) _, (G2.out).other (p := ⟨g10, i, none⟩) (by show g2 ≠ g10; omega) _, Fr.setCell (p := ⟨g10, i, none⟩) FS.out (.inr hw10) _⟩
                      · obtain rfl : b4 = 3 := by omega
                        have ev : (xa : Int) % 256 = (bk.toNat : Int) := by rw [HBK.out, byte_int]; omega
                        clear hab hb4
                        go_wp2_with fail
                        go_roundw
                        case measure => simp [intOf]; omega
                        case rel => exact ⟨i + 1, by omega, by go_num, HN.out _ hlt HBE.out, (P2.out).other (p := ⟨g10, i, none⟩) (by show g6 ≠ g10; omega) _, (G2.out).other (p := ⟨g10, i, none⟩) (by show g2 ≠ g10; omega) _, Fr.setCell (p := ⟨g10, i, none⟩) FS.out (.inr hw10) _⟩
                    · obtain rfl : i = 32 := by omega
                      have e : zl.take 32 ++ yl.drop 32 = zl := by rw [List.take_of_length_le (by rw [zl32.out]; omega), List.drop_of_length_le (by rw [yl32.out]; omega), List.append_nil]
                      rw [e, ← HSHA.out] at h10
                      clear e hlt hi
                      have hl32 : (shaN b).length = 32 := by rw [HSHA.out]; exact zl32.out
                      have hz8 : z32.size = (byts (shaN b)).toArray.size := by rw [HZ2.out, byts_size, byts_size, yl32.out, hl32]
                      obtain ⟨sh, hsh⟩ : ∃ sh, sh = shaN b := ⟨_, rfl⟩
                      rw [← hsh] at h10 hl32 hz8
                      have HSH := Lib.hid hsh
                      clear hsh
                      have hi28 : (Try.prog.info? 25).map (·.size) = some (byts sh).toArray.size := by rw [byts_size, hl32]; kernel_rfl
                      have h1 := byts_all sh
                      obtain ⟨cs, hcs⟩ : ∃ cs, cs = (byts sh).toArray := ⟨_, rfl⟩
                      rw [← hcs] at h10 hi28 hz8 h1
                      have HCS := Lib.hid hcs
                      have HF9 := Lib.hid hfs
                      clear hcs hl32 hfs
                      repeat (first
                        | refine list_load_blk rfl 25 _ rfl g10 rfl 25 _ h10 _ Try.underlying25 rfl hi28 ?_
                        | (refine list_store_blk rfl 25 _ _ rfl g2 cs rfl rfl 25 _ h2 hi28 hz8 h1 ?_; intro W9 hB hF)
                        | go_values | go_skip | go_step)
                      refine bodyPost_ret (v := .agg cs) (results_cell_row rfl _ _ g2 25 cs (0, 0) _ rfl hB Try.underlying25 rfl hi28) rfl ⟨by rw [HCS.out, HSH.out], Fr0.new HF9.out hF hl2⟩
end Go.Proofs.Ytjkcbklgddnbdaa
