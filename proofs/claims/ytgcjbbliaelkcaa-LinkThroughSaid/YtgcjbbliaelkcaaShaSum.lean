/- Sum: the digest of all that a hash has. Conditions stand in the statements. -/
import Derived.Test.YtgcjbbliaelkcaaShaSumLaw
import Derived.Deep.CutBlock
import Derived.Deep.LoopGhost
set_option linter.unusedSimpArgs false
namespace Go.Proofs.Ytgcjbbliaelkcaa
open Go.RowKit

/-- What has been made since world w0 may turn. -/
def since0 (b : Nat) (k : Nat) : Prop := b ≤ k
theorem fr_since {b : Nat} {S : Nat → Prop} {w1 w2 w3 : World} (h : Fr (since0 b) w1 w2) (k : Fr S w2 w3) (hs : ∀ i, S i → b ≤ i) : Fr (since0 b) w1 w3 := Fr.trans h (Fr.mono k hs)
set_option maxHeartbeats 4000000 in
set_option maxRecDepth 10000 in
theorem hsum_gen {arg : Value} {w : World} {all : List UInt8} {R : World → Prop} (hl : all.length ≤ 900000)
    (HC : ∀ W, Fr0 w W → Calls Try.prog 63 #[arg] W fun e w1 => ∃ p' v', e = .returned (.pointer (some ⟨p', 0, none⟩)) ∧ HashV W.heap.size w1 p' v' all ∧ W.heap.size ≤ w1.heap.size ∧ (∀ b vs t, Blk W b vs t → w.heap.size ≤ b → Blk w1 b vs t) ∧ R w1) :
    Calls Try.prog 50 #[arg] w fun e w' => e = .returned (.agg (byts (shaN all)).toArray) ∧ ∃ w1, R w1 ∧ Fr (since0 w.heap.size) w1 w' := by
  have HCC := Lib.hid HC
  obtain ⟨z32, hz32⟩ : ∃ z, z = (byts (List.replicate 32 0)).toArray := ⟨_, rfl⟩
  have hrun : ∀ W : World, (Instr.alloc 23 true (.tuple #[])).run Try.prog W = .ok (.pointer (some ⟨W.heap.size, 0, none⟩)) (W.alloc (.cells z32 23)) := by rw [hz32]; exact fun _ => by kernel_rfl
  have HRUN := Lib.hid hrun
  have HZ := Lib.hid hz32
  obtain ⟨na, hna⟩ : ∃ n, n = all.length := ⟨_, rfl⟩
  rw [← hna] at hl
  have HNA := Lib.hid hna
  clear HC hz32 hrun hna
  go_enter Try.func50, Try.ntmps50
  go_upto_region 3 with (first
    | (refine list_alloc_blk rfl 23 rfl z32 HRUN.out ?_; intro g2 w0 hB hF hl2; have B2 := Lib.hid hB; have F0 := Lib.hid hF; have L2 := Lib.hid hl2; clear hB hF hl2)
    | (go_at_call 63; refine (HCC.out _ F0.out).mono ?_; rintro e w1 ⟨p, v, rfl, hv, hsz, hkeep, hR⟩; have H1 := Lib.hid hv; have S1 := Lib.hid hsz; have K1 := Lib.hid ((hkeep _ _ _ B2.out L2.out)); have RR := Lib.hid hR; have d73 := hv.blk.cell 73 (hash_73 _ _ _); rw [← HNA.out] at d73; clear hv hsz hkeep hR))
  have hg2 := (B2.out).lt
  have hlo := (H1.out).lo
  have hl2 := L2.out
  obtain ⟨b0, hb0⟩ : ∃ b, b = w0.heap.size := ⟨_, rfl⟩
  rw [← hb0] at H1 S1 hg2 hlo
  have HP1 := Lib.hid (show Calls Try.prog 48 #[.pointer (some ⟨p, 0, none⟩), .slice (some ⟨w1.heap.size, 0, none⟩) 1 1] (w1.alloc (.cells #[.int .u8 128] 5)) (fun e w' => e = .returned (.tuple #[]) ∧ ∃ v', HashV b0 w' p v' (all ++ [128]) ∧ Fr (hOwn p v) w1 w') from hput_any H1.out S1.out 128 (by rw [← HNA.out]; omega))
  have hb0n : w.heap.size ≤ b0 := by omega
  clear hb0 d73 HCC
  go_upto_block 0 with (go_at_call 48; refine (HP1.out).mono ?_; rintro e w2 ⟨rfl, v2, hv, hf⟩; have H2 := Lib.hid hv; have F2 := Lib.hid (show Fr (since0 w.heap.size) w1 w2 from Fr.mono hf (fun k hk => Nat.le_trans hb0n (HashR.own_lo H1.out k hk).1)); have K2 := Lib.hid ((K1.out).fr hf (fun hk => by have := (HashR.own_lo H1.out _ hk).1; omega)); have S2 := Lib.hid (Nat.le_trans S1.out hf.size); clear hv hf)
  go_wp2_with fail
  go_loopg [] (padN na) (fun gk wr => ∃ (j : Nat) (A : Option Addr) (m c : Nat), j + gk = padN na ∧ m = (na + 1 + j) % 64 ∧ HashV b0 wr p (.slice A m c) (all ++ 128 :: List.replicate j 0) ∧ Blk wr g2 z32 23 ∧ Fr (since0 w.heap.size) w1 wr ∧ b0 ≤ wr.heap.size)
  case atStart =>
    obtain ⟨A, c, rfl, -⟩ := (H2.out).sl.form
    exact ⟨0, A, _, c, by omega, by rw [hRest_len, List.length_append, ← HNA.out]; rfl, H2.out, K2.out, F2.out, S2.out⟩
  case round =>
    obtain ⟨j, A, m, c, hj, hm, hH, hK, hF, hS⟩ := hrel
    have HH := Lib.hid hH
    have HK := Lib.hid hK
    have HF := Lib.hid hF
    have HS := Lib.hid hS
    have d72 := hH.blk.cell 72 (hash_72 _ _ _)
    by_cases hlt : 0 < gk
    · have hne : m ≠ 56 := by rw [hm]; exact pad_not na j (by omega)
      have q1 : ((m : Int) != 56) = true := by simp; omega
      have q2 : (m != 56) = true := by simpa using hne
      have HJ := Lib.hid hj
      have HGK := Lib.hid hlt
      have hp64 : padN na < 64 := by unfold padN; omega
      have HP := Lib.hid (show Calls Try.prog 48 #[.pointer (some ⟨p, 0, none⟩), .slice (some ⟨wr.heap.size, 0, none⟩) 1 1] (wr.alloc (.cells #[.int .u8 0] 5)) (fun e w' => e = .returned (.tuple #[]) ∧ ∃ v', HashV b0 w' p v' ((all ++ 128 :: List.replicate j 0) ++ [0]) ∧ Fr (hOwn p (.slice A m c)) wr w') from hput_any hH hS 0 (by simp; rw [← HNA.out]; omega))
      clear hj hm hH hK hF hS hlt hne
      go_wp2_with (go_at_call 48; refine (HP.out).mono ?_; rintro e w3 ⟨rfl, v3, hv, hf⟩; have H3 := Lib.hid hv; have F3 := Lib.hid (Fr.trans HF.out (Fr.mono hf (fun k hk => Nat.le_trans hb0n (HashR.own_lo HH.out k hk).1))); have K3 := Lib.hid ((HK.out).fr hf (fun hk => by have := (HashR.own_lo HH.out _ hk).1; omega)); have S3 := Lib.hid (Nat.le_trans HS.out hf.size); clear hv hf)
      go_roundg (gk - 1)
      case measure => have := HGK.out; omega
      case rel =>
        have h3 := H3.out
        have hj := HJ.out
        have hgk := HGK.out
        rw [show (all ++ 128 :: List.replicate j 0) ++ [0] = all ++ 128 :: List.replicate (j + 1) 0 from by rw [List.append_assoc, List.cons_append, ← List.replicate_succ']] at h3
        obtain ⟨A3, c3, rfl, -⟩ := h3.sl.form
        exact ⟨j + 1, A3, _, c3, by omega, by rw [hRest_len]; simp; rw [← HNA.out]; congr 1; omega, h3, K3.out, F3.out, S3.out⟩
    · have hj0 : j = padN na := by omega
      subst hj0
      have hne : m = 56 := by rw [hm]; exact pad_end na
      subst hne
      clear hj hm hH hK hF hS hlt
      go_wp2_with fail
      go_loopw [5] (fun v5 wr => ∃ (k : Nat) (i : Int) (A : Option Addr) (m c : Nat), k ≤ 8 ∧ v5 = .int .i64 i ∧ Hid (i = 56 - 8 * (k : Int)) ∧ Hid (m = (hRest (all ++ 128 :: (List.replicate (padN na) 0 ++ (lenB na).take k))).length) ∧ HashV b0 wr p (.slice A m c) (all ++ 128 :: (List.replicate (padN na) 0 ++ (lenB na).take k)) ∧ Blk wr g2 z32 23 ∧ Fr (since0 w.heap.size) w1 wr ∧ b0 ≤ wr.heap.size) (fun v5 _ => (intOf v5 + 8).toNat)
      case atStart =>
        have h := HH.out
        obtain ⟨A', c', hv, -⟩ := h.sl.form
        refine ⟨0, 56, A, 56, c, by omega, rfl, Lib.hid (by omega), Lib.hid ?_, ?_, HK.out, HF.out, HS.out⟩
        · injection hv with _ hm _
          rw [List.take_zero, List.append_nil]
          exact hm
        · rw [List.take_zero, List.append_nil]; exact h
      case round =>
        obtain ⟨k, i, A, m, c, hk, rfl, hi, hm, hH, hK, hF, hS⟩ := hrel
        have HH := Lib.hid hH
        have HK := Lib.hid hK
        have HF := Lib.hid hF
        have HS := Lib.hid hS
        by_cases hlt : k < 8
        · have hp64 : padN na < 64 := by unfold padN; omega
          have LB := Lib.hid (lenB_at na k hlt (by omega))
          have BI := Lib.hid (byte_int (na * 8 / 2 ^ (56 - 8 * k)))
          have hln : (all ++ 128 :: (List.replicate (padN na) 0 ++ (lenB na).take k)).length + 1 ≤ 1000000 := by
            have h8 : ((lenB na).take k).length ≤ 8 := by rw [List.length_take, lenB_len]; omega
            simp only [List.length_append, List.length_cons, List.length_replicate]
            rw [← HNA.out]
            omega
          have HP := Lib.hid (fun (b : UInt8) => hput_any hH hS b hln)
          clear hln
          clear hH hK hF hS hk
          obtain ⟨bk, hbk⟩ : ∃ b, b = UInt8.ofNat (na * 8 / 2 ^ (56 - 8 * k)) := ⟨_, rfl⟩
          rw [← hbk] at LB BI
          replace HP := Lib.hid ((HP.out) bk)
          have hii := hi.out
          have hb := BI.out
          rcases (by omega : k = 0 ∨ k = 1 ∨ k = 2 ∨ k = 3 ∨ k = 4 ∨ k = 5 ∨ k = 6 ∨ k = 7) with rfl | rfl | rfl | rfl | rfl | rfl | rfl | rfl
          · obtain rfl : i = 56 := by omega
            have ev : (na : Int) * 8 / 72057594037927936 = (bk.toNat : Int) := by rw [hb]; omega
            clear hi hii hb BI hbk hlt hm
            go_wp2_with (go_at_call 48; refine (HP.out).mono ?_; rintro e w3 ⟨rfl, v3, hv, hf⟩; have H3 := Lib.hid hv; have F3 := Lib.hid (Fr.trans HF.out (Fr.mono hf (fun q hq => Nat.le_trans hb0n (HashR.own_lo HH.out q hq).1))); have K3 := Lib.hid ((HK.out).fr hf (fun hq => by have := (HashR.own_lo HH.out _ hq).1; omega)); have S3 := Lib.hid (Nat.le_trans HS.out hf.size); clear hv hf)
            go_roundw
            case measure => simp [intOf]
            case rel =>
              have h3 := H3.out
              rw [List.append_assoc, List.cons_append, List.append_assoc, ← LB.out] at h3
              obtain ⟨A3, c3, rfl, -⟩ := h3.sl.form
              exact ⟨1, 48, A3, _, c3, by omega, rfl, Lib.hid (by decide), Lib.hid rfl, h3, K3.out, F3.out, S3.out⟩
          · obtain rfl : i = 48 := by omega
            have ev : (na : Int) * 8 / 281474976710656 = (bk.toNat : Int) := by rw [hb]; omega
            clear hi hii hb BI hbk hlt hm
            go_wp2_with (go_at_call 48; refine (HP.out).mono ?_; rintro e w3 ⟨rfl, v3, hv, hf⟩; have H3 := Lib.hid hv; have F3 := Lib.hid (Fr.trans HF.out (Fr.mono hf (fun q hq => Nat.le_trans hb0n (HashR.own_lo HH.out q hq).1))); have K3 := Lib.hid ((HK.out).fr hf (fun hq => by have := (HashR.own_lo HH.out _ hq).1; omega)); have S3 := Lib.hid (Nat.le_trans HS.out hf.size); clear hv hf)
            go_roundw
            case measure => simp [intOf]
            case rel =>
              have h3 := H3.out
              rw [List.append_assoc, List.cons_append, List.append_assoc, ← LB.out] at h3
              obtain ⟨A3, c3, rfl, -⟩ := h3.sl.form
              exact ⟨2, 40, A3, _, c3, by omega, rfl, Lib.hid (by decide), Lib.hid rfl, h3, K3.out, F3.out, S3.out⟩
          · obtain rfl : i = 40 := by omega
            have ev : (na : Int) * 8 / 1099511627776 = (bk.toNat : Int) := by rw [hb]; omega
            clear hi hii hb BI hbk hlt hm
            go_wp2_with (go_at_call 48; refine (HP.out).mono ?_; rintro e w3 ⟨rfl, v3, hv, hf⟩; have H3 := Lib.hid hv; have F3 := Lib.hid (Fr.trans HF.out (Fr.mono hf (fun q hq => Nat.le_trans hb0n (HashR.own_lo HH.out q hq).1))); have K3 := Lib.hid ((HK.out).fr hf (fun hq => by have := (HashR.own_lo HH.out _ hq).1; omega)); have S3 := Lib.hid (Nat.le_trans HS.out hf.size); clear hv hf)
            go_roundw
            case measure => simp [intOf]
            case rel =>
              have h3 := H3.out
              rw [List.append_assoc, List.cons_append, List.append_assoc, ← LB.out] at h3
              obtain ⟨A3, c3, rfl, -⟩ := h3.sl.form
              exact ⟨3, 32, A3, _, c3, by omega, rfl, Lib.hid (by decide), Lib.hid rfl, h3, K3.out, F3.out, S3.out⟩
          · obtain rfl : i = 32 := by omega
            have ev : (na : Int) * 8 / 4294967296 = (bk.toNat : Int) := by rw [hb]; omega
            clear hi hii hb BI hbk hlt hm
            go_wp2_with (go_at_call 48; refine (HP.out).mono ?_; rintro e w3 ⟨rfl, v3, hv, hf⟩; have H3 := Lib.hid hv; have F3 := Lib.hid (Fr.trans HF.out (Fr.mono hf (fun q hq => Nat.le_trans hb0n (HashR.own_lo HH.out q hq).1))); have K3 := Lib.hid ((HK.out).fr hf (fun hq => by have := (HashR.own_lo HH.out _ hq).1; omega)); have S3 := Lib.hid (Nat.le_trans HS.out hf.size); clear hv hf)
            go_roundw
            case measure => simp [intOf]
            case rel =>
              have h3 := H3.out
              rw [List.append_assoc, List.cons_append, List.append_assoc, ← LB.out] at h3
              obtain ⟨A3, c3, rfl, -⟩ := h3.sl.form
              exact ⟨4, 24, A3, _, c3, by omega, rfl, Lib.hid (by decide), Lib.hid rfl, h3, K3.out, F3.out, S3.out⟩
          · obtain rfl : i = 24 := by omega
            have ev : (na : Int) * 8 / 16777216 = (bk.toNat : Int) := by rw [hb]; omega
            clear hi hii hb BI hbk hlt hm
            go_wp2_with (go_at_call 48; refine (HP.out).mono ?_; rintro e w3 ⟨rfl, v3, hv, hf⟩; have H3 := Lib.hid hv; have F3 := Lib.hid (Fr.trans HF.out (Fr.mono hf (fun q hq => Nat.le_trans hb0n (HashR.own_lo HH.out q hq).1))); have K3 := Lib.hid ((HK.out).fr hf (fun hq => by have := (HashR.own_lo HH.out _ hq).1; omega)); have S3 := Lib.hid (Nat.le_trans HS.out hf.size); clear hv hf)
            go_roundw
            case measure => simp [intOf]
            case rel =>
              have h3 := H3.out
              rw [List.append_assoc, List.cons_append, List.append_assoc, ← LB.out] at h3
              obtain ⟨A3, c3, rfl, -⟩ := h3.sl.form
              exact ⟨5, 16, A3, _, c3, by omega, rfl, Lib.hid (by decide), Lib.hid rfl, h3, K3.out, F3.out, S3.out⟩
          · obtain rfl : i = 16 := by omega
            have ev : (na : Int) * 8 / 65536 = (bk.toNat : Int) := by rw [hb]; omega
            clear hi hii hb BI hbk hlt hm
            go_wp2_with (go_at_call 48; refine (HP.out).mono ?_; rintro e w3 ⟨rfl, v3, hv, hf⟩; have H3 := Lib.hid hv; have F3 := Lib.hid (Fr.trans HF.out (Fr.mono hf (fun q hq => Nat.le_trans hb0n (HashR.own_lo HH.out q hq).1))); have K3 := Lib.hid ((HK.out).fr hf (fun hq => by have := (HashR.own_lo HH.out _ hq).1; omega)); have S3 := Lib.hid (Nat.le_trans HS.out hf.size); clear hv hf)
            go_roundw
            case measure => simp [intOf]
            case rel =>
              have h3 := H3.out
              rw [List.append_assoc, List.cons_append, List.append_assoc, ← LB.out] at h3
              obtain ⟨A3, c3, rfl, -⟩ := h3.sl.form
              exact ⟨6, 8, A3, _, c3, by omega, rfl, Lib.hid (by decide), Lib.hid rfl, h3, K3.out, F3.out, S3.out⟩
          · obtain rfl : i = 8 := by omega
            have ev : ((na : Int) * 8 / 256) % 256 = (bk.toNat : Int) := by rw [hb]; omega
            clear hi hii hb BI hbk hlt hm
            go_wp2_with (go_at_call 48; refine (HP.out).mono ?_; rintro e w3 ⟨rfl, v3, hv, hf⟩; have H3 := Lib.hid hv; have F3 := Lib.hid (Fr.trans HF.out (Fr.mono hf (fun q hq => Nat.le_trans hb0n (HashR.own_lo HH.out q hq).1))); have K3 := Lib.hid ((HK.out).fr hf (fun hq => by have := (HashR.own_lo HH.out _ hq).1; omega)); have S3 := Lib.hid (Nat.le_trans HS.out hf.size); clear hv hf)
            go_roundw
            case measure => simp [intOf]
            case rel =>
              have h3 := H3.out
              rw [List.append_assoc, List.cons_append, List.append_assoc, ← LB.out] at h3
              obtain ⟨A3, c3, rfl, -⟩ := h3.sl.form
              exact ⟨7, 0, A3, _, c3, by omega, rfl, Lib.hid (by decide), Lib.hid rfl, h3, K3.out, F3.out, S3.out⟩
          · obtain rfl : i = 0 := by omega
            have ev : ((na : Int) * 8) % 256 = (bk.toNat : Int) := by rw [hb]; omega
            clear hi hii hb BI hbk hlt hm
            go_wp2_with (go_at_call 48; refine (HP.out).mono ?_; rintro e w3 ⟨rfl, v3, hv, hf⟩; have H3 := Lib.hid hv; have F3 := Lib.hid (Fr.trans HF.out (Fr.mono hf (fun q hq => Nat.le_trans hb0n (HashR.own_lo HH.out q hq).1))); have K3 := Lib.hid ((HK.out).fr hf (fun hq => by have := (HashR.own_lo HH.out _ hq).1; omega)); have S3 := Lib.hid (Nat.le_trans HS.out hf.size); clear hv hf)
            go_roundw
            case measure => simp [intOf]
            case rel =>
              have h3 := H3.out
              rw [List.append_assoc, List.cons_append, List.append_assoc, ← LB.out] at h3
              obtain ⟨A3, c3, rfl, -⟩ := h3.sl.form
              exact ⟨8, -8, A3, _, c3, by omega, rfl, Lib.hid (by decide), Lib.hid rfl, h3, K3.out, F3.out, S3.out⟩
        · obtain rfl : k = 8 := by omega
          have hi8 := hi.out
          obtain rfl : i = -8 := by omega
          have HPD := Lib.hid (show HashV b0 wr p (.slice A m c) (padded all) from by
            have h := HH.out
            rw [show (lenB na).take 8 = lenB na from rfl] at h
            unfold padded
            rw [← HNA.out]
            exact h)
          clear hi hi8 hm hlt hk hH hK hF hS
          have hz2 := HZ.out
          go_wp2_with (refine list_alloc_blk rfl 23 rfl z32 HRUN.out ?_; intro g6 w6 hB hF hl6; have B6 := Lib.hid hB; have P6 := Lib.hid (((HPD.out).blk).fr0 hF); have G6 := Lib.hid ((HK.out).fr0 hF); have F6 := Lib.hid (Fr.then0 HF.out hF); have l6 := hl6; clear hB hF hl6)
          have hpw := (HPD.out).blk.lt
          have hpb := (HPD.out).lo
          have hgw := (HK.out).lt
          have hsw := HS.out
          have HSHA := Lib.hid (sha_eq all)
          obtain ⟨X, hX⟩ : ∃ X, X = hX (padded all) := ⟨_, rfl⟩
          rw [← hX] at P6 HSHA
          clear hX
          obtain ⟨n, hn⟩ : ∃ n : Int, n = ((padded all).length : Int) := ⟨_, rfl⟩
          rw [← hn] at P6
          clear hn
          have zl32 := Lib.hid (outB_len X)
          have HZA := Lib.hid (fun a b (ha : a < 8) (hb : b < 4) => outB_at X a b ha hb)
          obtain ⟨zl, hzl⟩ : ∃ zl, zl = outB X := ⟨_, rfl⟩
          rw [← hzl] at zl32 HZA HSHA
          clear hzl
          obtain ⟨yl, hyl⟩ : ∃ yl : List UInt8, yl = List.replicate 32 0 := ⟨_, rfl⟩
          have yl32 := Lib.hid (show yl.length = 32 by rw [hyl]; rfl)
          rw [← hyl] at hz2
          have HZ2 := Lib.hid hz2
          clear hyl hz2 HZ
          go_loopw [39] (fun v39 wr => ∃ i : Nat, i ≤ 32 ∧ v39 = .int .i64 i ∧ Blk wr g6 (byts (zl.take i ++ yl.drop i)).toArray 23 ∧ Blk wr p (hashC X (.slice A m c) n) 124 ∧ Blk wr g2 z32 23 ∧ Fr (since0 w.heap.size) w1 wr) (fun v39 _ => 32 - (intOf v39).toNat)
          case atStart => exact ⟨0, by omega, rfl, by have h := B6.out; rw [HZ2.out] at h; exact h, P6.out, G6.out, F6.out⟩
          case round =>
            obtain ⟨i, hi, rfl, h6, hp, h2, hfs⟩ := hrel
            by_cases hlt : i < 32
            · obtain ⟨a, b, ha, hb4, hab⟩ : ∃ a b, a < 8 ∧ b < 4 ∧ i = 4 * a + b := ⟨i / 4, i % 4, by omega, by omega, by omega⟩
              have P2 := Lib.hid hp
              have G2 := Lib.hid h2
              have FS := Lib.hid hfs
              have i0 : (0 : Int) ≤ (i : Int) := by omega
              have i1 : (i : Int) < 32 := by omega
              have j0 : (0 : Int) ≤ (a : Int) := by omega
              have j1 : (a : Int) < 8 := by omega
              have t1 : (i : Int) / 4 = (a : Int) := by omega
              have t2 : (i : Int) % 4 = (b : Int) := by omega
              have t3 : (i : Int).tdiv 4 = (a : Int) := by rw [Int.tdiv_eq_ediv_of_nonneg i0]; exact t1
              have t4 : (i : Int).tmod 4 = (b : Int) := by rw [Int.tmod_eq_emod_of_nonneg i0]; exact t2
              have d0 := hp.cell a (v := .int .u32 ((X.list.getD a 0 : Nat) : Int)) (by rw [hash_x _ _ _ ha, ← h8_wA]; exact wA_at ha)
              obtain ⟨o6, e6⟩ : ∃ o6, wr.cell? ⟨g6, i, none⟩ = some o6 := ⟨_, h6.cell i (Array.getElem?_eq_getElem (by rw [byts_size, List.length_append, List.length_take, List.length_drop, zl32.out, yl32.out]; omega))⟩
              have f6 := h6.free i
              have HBK := Lib.hid (show zl.getD i 0 = UInt8.ofNat (X.list.getD a 0 / 2 ^ (24 - 8 * b)) by rw [hab]; exact (HZA.out) a b ha hb4)
              obtain ⟨xa, hxa⟩ : ∃ xa, xa = X.list.getD a 0 := ⟨_, rfl⟩
              rw [← hxa] at d0 HBK
              have HN := Lib.hid (fun (bk : UInt8) (hlt : i < 32) (hbk : bk = zl.getD i 0) => show Blk (wr.setCell ⟨g6, i, none⟩ (.int .u8 (bk.toNat : Int))) g6 (byts (zl.take (i + 1) ++ yl.drop (i + 1))).toArray 23 from by
                have h := h6.set i (.int .u8 (bk.toNat : Int))
                rw [hbk, bhalf_set zl32.out yl32.out hlt] at h
                rw [hbk]
                exact h)
              obtain ⟨bk, hbk⟩ : ∃ bk, bk = zl.getD i 0 := ⟨_, rfl⟩
              rw [← hbk] at HBK
              have HBE := Lib.hid hbk
              clear hbk hxa h6 hp h2 hfs ha
              rcases (by omega : b = 0 ∨ b = 1 ∨ b = 2 ∨ b = 3) with hb | hb | hb | hb
              · obtain rfl : b = 0 := by omega
                have ev : ((xa : Int) / 16777216) % 256 = (bk.toNat : Int) := by rw [HBK.out, byte_int]; omega
                clear hab hb4
                go_wp2_with fail
                go_roundw
                case measure => simp [intOf]; omega
                case rel => exact ⟨i + 1, by omega, by go_num, HN.out _ hlt HBE.out, (P2.out).other (p := ⟨g6, i, none⟩) (by show p ≠ g6; omega) _, (G2.out).other (p := ⟨g6, i, none⟩) (by show g2 ≠ g6; omega) _, Fr.setCell (p := ⟨g6, i, none⟩) FS.out (.inl (by show w.heap.size ≤ g6; omega)) _⟩
              · obtain rfl : b = 1 := by omega
                have ev : ((xa : Int) / 65536) % 256 = (bk.toNat : Int) := by rw [HBK.out, byte_int]; omega
                clear hab hb4
                go_wp2_with fail
                go_roundw
                case measure => simp [intOf]; omega
                case rel => exact ⟨i + 1, by omega, by go_num, HN.out _ hlt HBE.out, (P2.out).other (p := ⟨g6, i, none⟩) (by show p ≠ g6; omega) _, (G2.out).other (p := ⟨g6, i, none⟩) (by show g2 ≠ g6; omega) _, Fr.setCell (p := ⟨g6, i, none⟩) FS.out (.inl (by show w.heap.size ≤ g6; omega)) _⟩
              · obtain rfl : b = 2 := by omega
                have ev : ((xa : Int) / 256) % 256 = (bk.toNat : Int) := by rw [HBK.out, byte_int]; omega
                clear hab hb4
                go_wp2_with fail
                go_roundw
                case measure => simp [intOf]; omega
                case rel => exact ⟨i + 1, by omega, by go_num, HN.out _ hlt HBE.out, (P2.out).other (p := ⟨g6, i, none⟩) (by show p ≠ g6; omega) _, (G2.out).other (p := ⟨g6, i, none⟩) (by show g2 ≠ g6; omega) _, Fr.setCell (p := ⟨g6, i, none⟩) FS.out (.inl (by show w.heap.size ≤ g6; omega)) _⟩
              · obtain rfl : b = 3 := by omega
                have ev : (xa : Int) % 256 = (bk.toNat : Int) := by rw [HBK.out, byte_int]; omega
                clear hab hb4
                go_wp2_with fail
                go_roundw
                case measure => simp [intOf]; omega
                case rel => exact ⟨i + 1, by omega, by go_num, HN.out _ hlt HBE.out, (P2.out).other (p := ⟨g6, i, none⟩) (by show p ≠ g6; omega) _, (G2.out).other (p := ⟨g6, i, none⟩) (by show g2 ≠ g6; omega) _, Fr.setCell (p := ⟨g6, i, none⟩) FS.out (.inl (by show w.heap.size ≤ g6; omega)) _⟩
            · obtain rfl : i = 32 := by omega
              have e : zl.take 32 ++ yl.drop 32 = zl := by rw [List.take_of_length_le (by rw [zl32.out]; omega), List.drop_of_length_le (by rw [yl32.out]; omega), List.append_nil]
              rw [e, ← HSHA.out] at h6
              clear e hlt hi
              have hl32 : (shaN all).length = 32 := by rw [HSHA.out]; exact zl32.out
              have hz8 : z32.size = (byts (shaN all)).toArray.size := by rw [HZ2.out, byts_size, byts_size, yl32.out, hl32]
              obtain ⟨sh, hsh⟩ : ∃ sh, sh = shaN all := ⟨_, rfl⟩
              rw [← hsh] at h6 hl32 hz8
              have HSH := Lib.hid hsh
              clear hsh
              have hi28 : (Try.prog.info? 23).map (·.size) = some (byts sh).toArray.size := by rw [byts_size, hl32]; kernel_rfl
              have h1 := byts_all sh
              obtain ⟨cs, hcs⟩ : ∃ cs, cs = (byts sh).toArray := ⟨_, rfl⟩
              rw [← hcs] at h6 hi28 hz8 h1
              have HCS := Lib.hid hcs
              have HF9 := Lib.hid hfs
              clear hcs hl32 hfs
              repeat (first
                | refine list_load_blk rfl 23 _ rfl g6 rfl 23 _ h6 _ Try.underlying23 rfl hi28 ?_
                | (refine list_store_blk rfl 23 _ _ rfl g2 cs rfl rfl 23 _ h2 hi28 hz8 h1 ?_; intro W9 hB hF)
                | go_values | go_skip | go_step)
              refine bodyPost_ret (v := .agg cs) (results_cell_row rfl _ _ g2 23 cs (0, 0) _ rfl hB Try.underlying23 rfl hi28) rfl ⟨by rw [HCS.out, HSH.out], w1, RR.out, fr_since HF9.out hF (fun q hq => by rw [hq]; exact hl2)⟩
end Go.Proofs.Ytgcjbbliaelkcaa
