/- The reference's pad: a key's block. Conditions stand in the statements. -/
import Derived.Test.YtjkcbklgddnbdaaMacLaw
import Derived.Test.YtjkcbklgddnbdaaShaRSum
import Derived.Test.YtjkcbklgddnbdaaShaEq
import Derived.Test.YtjkcbklgddnbdaaSlPut
set_option linter.unusedSimpArgs false
namespace Go.Proofs.Ytjkcbklgddnbdaa
open Go.RowKit

set_option maxHeartbeats 4000000 in
set_option maxRecDepth 10000 in
theorem rpad_any {v : Value} {key : List UInt8} {w : World} (x : UInt8) (h : RdB w v key) (hl : key.length ≤ 900000) :
    Calls Try.prog 19 #[v, .int .u8 (x.toNat : Int)] w fun e w' => ∃ A c, e = .returned (.slice A 64 c) ∧ SlO w.heap.size w' (.slice A 64 c) (blockN key x) ∧ Fr0 w w' := by
  obtain ⟨Av, cv, rfl, -, -, -⟩ := h.form
  have hxb : (x.toNat : Int) < 256 := by have := x.toNat_lt; omega
  have HKE := Lib.hid (show RdB w (.slice Av key.length cv) key from h)
  obtain ⟨nk, hnk⟩ : ∃ n, n = key.length := ⟨_, rfl⟩
  rw [← hnk] at hl ⊢
  have HNK := Lib.hid hnk
  by_cases hg : nk ≤ 64
  · have HKN := Lib.hid (show keyN key = key from keyN_small (by omega))
    rw [← hnk] at HKE
    clear hnk h
    go_enter Try.func19, Try.ntmps19
    go_upto_region 5 with (refine list_append_sl (base := w.heap.size) (d := []) (e := key) rfl _ _ rfl (SlO.new0 (Nat.le_refl _)) rfl (by simp) ((HKE.out).fr0 ((Fr0.refl w).alloc _)) rfl (by rw [← HNK.out]; simp; omega) ?_; intro A5 c5 w1 hS hF hK; have S5 := Lib.hid (show SlO w.heap.size w1 (.slice A5 (keyN key).length c5) (keyN key) from by rw [HKN.out]; exact hS); have F5 := Lib.hid ((SlO.new0 (Nat.le_refl _)).thenFr ((Fr0.refl w).alloc _) hF); rw [show ([] : List UInt8).length + key.length = (keyN key).length from by rw [HKN.out]; exact Nat.zero_add _]; clear hS hF hK)
    have KN := Lib.hid (keyN_le key)
    have PK := Lib.hid (padK_len key)
    have BK := Lib.hid (blockN_len key x)
    have HAT := Lib.hid (fun i (h : i < 64) => blockN_at key x i h)
    have HPD := Lib.hid (show padK key = keyN key ++ List.replicate (64 - (keyN key).length) 0 from rfl)
    obtain ⟨kn, hkn⟩ : ∃ k, k = keyN key := ⟨_, rfl⟩
    rw [← hkn] at S5 KN HPD ⊢
    obtain ⟨pl, hpl⟩ : ∃ p, p = padK key := ⟨_, rfl⟩
    rw [← hpl] at PK HPD HAT
    obtain ⟨bl, hbl⟩ : ∃ b, b = blockN key x := ⟨_, rfl⟩
    rw [← hbl] at BK HAT
    have HBL := Lib.hid hbl
    obtain ⟨kl, hkl⟩ : ∃ n, n = kn.length := ⟨_, rfl⟩
    rw [← hkl] at S5 KN HPD ⊢
    have kl64 := KN.out
    have HKL := Lib.hid hkl
    clear hkn hpl hbl hkl
    go_wp2_with fail
    go_loopw [5] (fun v5 wr => ∃ (m c : Nat) (A : Option Addr), kl ≤ m ∧ m ≤ 64 ∧ v5 = .slice A m c ∧ SlO w.heap.size wr (.slice A m c) (kn ++ List.replicate (m - kl) 0) ∧ Fr0 w wr) (fun v5 _ => 64 - (match v5 with | .slice _ m _ => m | _ => 0))
    case atStart => exact ⟨kl, c5, A5, Nat.le_refl _, kl64, rfl, by rw [Nat.sub_self, List.replicate_zero, List.append_nil]; exact S5.out, F5.out⟩
    case round =>
      obtain ⟨m, c, A, hm1, hm2, rfl, hS, hF⟩ := hrel
      by_cases hlt : m < 64
      · have KS := Lib.hid hS
        have KF := Lib.hid hF
        have KM := Lib.hid (show (kn ++ List.replicate (m - kl) (0 : UInt8)).length = m from by rw [List.length_append, List.length_replicate, ← HKL.out]; omega)
        clear hS hF
        go_wp2_with (first
          | (refine list_append_sl (base := w.heap.size) (d := kn ++ List.replicate (m - kl) 0) (e := [0]) rfl _ _ rfl ((KS.out).fr0 ((Fr0.refl wr).alloc _)) rfl ?_ ?_ rfl ?_ ?_; · (have := (KF.out).size; simp; omega)
             · exact lit_bytes wr 5 [0] (by simp) (0, 0)
             · (rw [KM.out]; simp; omega)
             intro A3 c3 w3 hS hF hK; have S3 := Lib.hid hS; have F3 := Lib.hid (((KS.out).fr0 ((Fr0.refl wr).alloc _)).thenFr ((KF.out).alloc _) hF); rw [show (kn ++ List.replicate (m - kl) (0 : UInt8)).length + [(0 : UInt8)].length = m + 1 from by rw [KM.out]; rfl]; clear hS hF hK))
        go_roundw
        case measure => simp; omega
        case rel =>
          have h := S3.out
          have e : (kn ++ List.replicate (m - kl) (0 : UInt8)) ++ [0] = kn ++ List.replicate (m + 1 - kl) 0 := by rw [List.append_assoc, ← List.replicate_succ', show m - kl + 1 = m + 1 - kl by omega]
          rw [show ((kn ++ List.replicate (m - kl) (0 : UInt8)) ++ [(0 : UInt8)]).length = m + 1 from by rw [List.length_append, KM.out]; rfl, e] at h
          exact ⟨m + 1, c3, A3, by omega, by omega, rfl, h, F3.out⟩
      · obtain rfl : m = 64 := by omega
        rw [← HPD.out] at hS
        have KS := Lib.hid hS
        have KF := Lib.hid hF
        clear hS hF hlt hm1 hm2
        go_wp2_with fail
        go_loopw [7] (fun v7 wr => ∃ i : Nat, i ≤ 64 ∧ v7 = .int .i64 i ∧ SlO w.heap.size wr (.slice A 64 c) (bl.take i ++ pl.drop i) ∧ Fr0 w wr) (fun v7 _ => 64 - (intOf v7).toNat)
        case atStart => exact ⟨0, by omega, rfl, KS.out, KF.out⟩
        case round =>
          obtain ⟨i, hi, rfl, hS, hF⟩ := hrel
          by_cases hlt : i < 64
          · have i0 : (0 : Int) ≤ (i : Int) := by omega
            have i1 : (i : Int) < 64 := by omega
            have hL : (bl.take i ++ pl.drop i).length = 64 := by rw [List.length_append, List.length_take, List.length_drop, BK.out, PK.out]; omega
            obtain ⟨g6, o6, u6, hA6, hjc, e6, f6, hput⟩ := hS.put (show i < (bl.take i ++ pl.drop i).length by omega)
            subst hA6
            obtain ⟨g7, o7, c7, hv7, _, _, d7⟩ := hS.rd.cell (show i < (bl.take i ++ pl.drop i).length by omega)
            injection hv7 with hA7 hn7 hc7
            injection hA7 with hA7
            injection hA7 with hg7 ho7
            subst hg7 ho7
            have hel : (bl.take i ++ pl.drop i)[i]'(by omega) = pl.getD i 0 := by
              have h := take_set_xor PK.out BK.out hlt
              rw [List.getElem?_toArray, byts_at _ i (by omega)] at h
              injection h with h
              injection h with _ h
              exact UInt8.toNat_inj.1 (by omega)
            rw [hel] at d7
            have hx := xor_u8 (pl.getD i 0) x
            rw [← (HAT.out) i hlt] at hx
            have hset : (bl.take i ++ pl.drop i).set i (bl.getD i 0) = bl.take (i + 1) ++ pl.drop (i + 1) := by
              have h1 : (bl.take i).length = i := by rw [List.length_take, BK.out]; omega
              have h2 : bl.take (i + 1) = bl.take i ++ [bl.getD i 0] := by rw [List.take_add_one, show bl[i]? = some (bl.getD i 0) from by simp [List.getD, BK.out, hlt]]; rfl
              have h3 : pl.drop i = pl.getD i 0 :: pl.drop (i + 1) := by rw [List.drop_eq_getElem_cons (by rw [PK.out]; exact hlt)]; simp [List.getD, PK.out, hlt]
              rw [h3, List.set_append_right _ _ (by omega), h1, Nat.sub_self, List.set_cons_zero, h2, List.append_assoc]
              rfl
            have HN := Lib.hid (hput (bl.getD i 0))
            rw [hset] at HN
            obtain ⟨pi, hpi⟩ : ∃ p, p = pl.getD i 0 := ⟨_, rfl⟩
            obtain ⟨bi, hbi⟩ : ∃ p, p = bl.getD i 0 := ⟨_, rfl⟩
            rw [← hpi] at d7 hx
            rw [← hbi] at hx HN
            have KS := Lib.hid hS
            have HF := Lib.hid hF
            clear hpi hbi hS hF hput hset hel hn7 hc7 hL e6
            go_wp2_with fail
            go_roundw
            case measure => simp [intOf]; omega
            case rel => exact ⟨i + 1, by omega, by go_num, (HN.out).1, (KS.out).thenFr HF.out (HN.out).2⟩
          · obtain rfl : i = 64 := by omega
            have e : bl.take 64 ++ pl.drop 64 = bl := by rw [List.take_of_length_le (by rw [BK.out]; omega), List.drop_of_length_le (by rw [PK.out]; omega), List.append_nil]
            rw [e, HBL.out] at hS
            clear e
            go_wp2_with fail
            go_ret
            exact ⟨A, c, rfl, hS, hF⟩

  · have HKN := Lib.hid (show keyN key = shaN key from keyN_great (by omega))
    have hgt : (64 : Int) < (nk : Int) := by omega
    have HSU := Lib.hid (fun (W : World) (hf : Fr0 w W) => show Calls Try.prog 18 #[.slice Av nk cv] W (fun e w' => e = .returned (.agg (byts (keyN key)).toArray) ∧ Fr0 W w') from by
      rw [HKN.out, hnk]
      exact rsum_any (h.fr0 hf) (by omega))
    have h32 : (keyN key).length = 32 := by rw [HKN.out]; exact sha_len key
    have hi32 := dig_info h32
    have ho32 := z32_size h32
    have ha32 := byts_all (keyN key)
    have HRUN32 := Lib.hid (fun W => z32_run W)
    obtain ⟨z32, hz32⟩ : ∃ z, z = z32A := ⟨_, rfl⟩
    rw [← hz32] at HRUN32 ho32
    obtain ⟨s0, hs0⟩ : ∃ s, s = (byts (keyN key)).toArray := ⟨_, rfl⟩
    rw [← hs0] at HSU hi32 ho32 ha32
    have HS0 := Lib.hid hs0
    have HI := Lib.hid hi32
    have HO := Lib.hid ho32
    have H32 := Lib.hid h32
    rw [← hnk] at HKE
    clear hnk h hz32 hs0 hi32 ho32 h32
    go_enter Try.func19, Try.ntmps19
    go_upto_region 5 with (first
      | (have _q := C4; refine list_append_sl (base := w.heap.size) (d := []) (e := keyN key) rfl _ _ rfl (SlO.new0 ((F4.out).size)) rfl (Nat.le_trans (F4.out).size (by simp)) (by
            have hb := C4.out
            rw [HS0.out] at hb
            have h := arr_rd hb (o := 0) (k := 32) (c := 32) (by rw [H32.out]; decide) (Nat.le_refl _) (by unfold maxLen; decide)
            rw [List.drop_zero, List.take_of_length_le (Nat.le_of_eq H32.out)] at h
            exact h.fr0 ((Fr0.refl _).alloc _)) rfl (by rw [H32.out]; decide) ?_; intro A5 c5 w5 hS hF hK; have S5 := Lib.hid (show SlO w.heap.size w5 (.slice A5 (keyN key).length c5) (keyN key) from hS); have F5 := Lib.hid ((SlO.new0 ((F4.out).size)).thenFr ((F4.out).alloc _) hF); rw [show ([] : List UInt8).length + (keyN key).length = (keyN key).length from Nat.zero_add _]; clear hS hF hK)
      | (refine list_append_sl (base := w.heap.size) (d := []) (e := key) rfl _ _ rfl (SlO.new0 (Nat.le_refl _)) rfl (by simp) ((HKE.out).fr0 ((Fr0.refl w).alloc _)) rfl (by rw [← HNK.out]; simp; omega) ?_; intro A1 c1 w1 hS hF hK; have F1 := Lib.hid ((SlO.new0 (Nat.le_refl _)).thenFr ((Fr0.refl w).alloc _) hF); rw [show ([] : List UInt8).length + key.length = nk from by rw [HNK.out]; exact Nat.zero_add _]; clear hS hF hK)
      | (go_at_call 18; refine (HSU.out _ F1.out).mono ?_; rintro e w2 ⟨rfl, hf⟩; have F2 := Lib.hid (Fr0.trans F1.out hf); clear hf)
      | (refine list_alloc_blk rfl 25 rfl z32 HRUN32.out ?_; intro g6 w3 hB hF hl6; have C3 := Lib.hid hB; have F3 := Lib.hid (Fr0.trans F2.out hF); have L6 := Lib.hid hl6; clear hB hF hl6)
      | (refine list_store_blk rfl 25 _ _ rfl g6 s0 rfl rfl 25 z32 C3.out HI.out HO.out ha32 ?_; intro w4 hB hF; have C4 := Lib.hid hB; have F4 := Lib.hid (Fr0.new F3.out hF (by have := (F2.out).size; have := L6.out; omega)); clear hB hF))
    have KN := Lib.hid (keyN_le key)
    have PK := Lib.hid (padK_len key)
    have BK := Lib.hid (blockN_len key x)
    have HAT := Lib.hid (fun i (h : i < 64) => blockN_at key x i h)
    have HPD := Lib.hid (show padK key = keyN key ++ List.replicate (64 - (keyN key).length) 0 from rfl)
    obtain ⟨kn, hkn⟩ : ∃ k, k = keyN key := ⟨_, rfl⟩
    rw [← hkn] at S5 KN HPD ⊢
    obtain ⟨pl, hpl⟩ : ∃ p, p = padK key := ⟨_, rfl⟩
    rw [← hpl] at PK HPD HAT
    obtain ⟨bl, hbl⟩ : ∃ b, b = blockN key x := ⟨_, rfl⟩
    rw [← hbl] at BK HAT
    have HBL := Lib.hid hbl
    obtain ⟨kl, hkl⟩ : ∃ n, n = kn.length := ⟨_, rfl⟩
    rw [← hkl] at S5 KN HPD ⊢
    have kl64 := KN.out
    have HKL := Lib.hid hkl
    clear hkn hpl hbl hkl
    go_wp2_with fail
    go_loopw [5] (fun v5 wr => ∃ (m c : Nat) (A : Option Addr), kl ≤ m ∧ m ≤ 64 ∧ v5 = .slice A m c ∧ SlO w.heap.size wr (.slice A m c) (kn ++ List.replicate (m - kl) 0) ∧ Fr0 w wr) (fun v5 _ => 64 - (match v5 with | .slice _ m _ => m | _ => 0))
    case atStart => exact ⟨kl, c5, A5, Nat.le_refl _, kl64, rfl, by rw [Nat.sub_self, List.replicate_zero, List.append_nil]; exact S5.out, F5.out⟩
    case round =>
      obtain ⟨m, c, A, hm1, hm2, rfl, hS, hF⟩ := hrel
      by_cases hlt : m < 64
      · have KS := Lib.hid hS
        have KF := Lib.hid hF
        have KM := Lib.hid (show (kn ++ List.replicate (m - kl) (0 : UInt8)).length = m from by rw [List.length_append, List.length_replicate, ← HKL.out]; omega)
        clear hS hF
        go_wp2_with (first
          | (refine list_append_sl (base := w.heap.size) (d := kn ++ List.replicate (m - kl) 0) (e := [0]) rfl _ _ rfl ((KS.out).fr0 ((Fr0.refl wr).alloc _)) rfl ?_ ?_ rfl ?_ ?_; · (have := (KF.out).size; simp; omega)
             · exact lit_bytes wr 5 [0] (by simp) (0, 0)
             · (rw [KM.out]; simp; omega)
             intro A3 c3 w3 hS hF hK; have S3 := Lib.hid hS; have F3 := Lib.hid (((KS.out).fr0 ((Fr0.refl wr).alloc _)).thenFr ((KF.out).alloc _) hF); rw [show (kn ++ List.replicate (m - kl) (0 : UInt8)).length + [(0 : UInt8)].length = m + 1 from by rw [KM.out]; rfl]; clear hS hF hK))
        go_roundw
        case measure => simp; omega
        case rel =>
          have h := S3.out
          have e : (kn ++ List.replicate (m - kl) (0 : UInt8)) ++ [0] = kn ++ List.replicate (m + 1 - kl) 0 := by rw [List.append_assoc, ← List.replicate_succ', show m - kl + 1 = m + 1 - kl by omega]
          rw [show ((kn ++ List.replicate (m - kl) (0 : UInt8)) ++ [(0 : UInt8)]).length = m + 1 from by rw [List.length_append, KM.out]; rfl, e] at h
          exact ⟨m + 1, c3, A3, by omega, by omega, rfl, h, F3.out⟩
      · obtain rfl : m = 64 := by omega
        rw [← HPD.out] at hS
        have KS := Lib.hid hS
        have KF := Lib.hid hF
        clear hS hF hlt hm1 hm2
        go_wp2_with fail
        go_loopw [7] (fun v7 wr => ∃ i : Nat, i ≤ 64 ∧ v7 = .int .i64 i ∧ SlO w.heap.size wr (.slice A 64 c) (bl.take i ++ pl.drop i) ∧ Fr0 w wr) (fun v7 _ => 64 - (intOf v7).toNat)
        case atStart => exact ⟨0, by omega, rfl, KS.out, KF.out⟩
        case round =>
          obtain ⟨i, hi, rfl, hS, hF⟩ := hrel
          by_cases hlt : i < 64
          · have i0 : (0 : Int) ≤ (i : Int) := by omega
            have i1 : (i : Int) < 64 := by omega
            have hL : (bl.take i ++ pl.drop i).length = 64 := by rw [List.length_append, List.length_take, List.length_drop, BK.out, PK.out]; omega
            obtain ⟨g6, o6, u6, hA6, hjc, e6, f6, hput⟩ := hS.put (show i < (bl.take i ++ pl.drop i).length by omega)
            subst hA6
            obtain ⟨g7, o7, c7, hv7, _, _, d7⟩ := hS.rd.cell (show i < (bl.take i ++ pl.drop i).length by omega)
            injection hv7 with hA7 hn7 hc7
            injection hA7 with hA7
            injection hA7 with hg7 ho7
            subst hg7 ho7
            have hel : (bl.take i ++ pl.drop i)[i]'(by omega) = pl.getD i 0 := by
              have h := take_set_xor PK.out BK.out hlt
              rw [List.getElem?_toArray, byts_at _ i (by omega)] at h
              injection h with h
              injection h with _ h
              exact UInt8.toNat_inj.1 (by omega)
            rw [hel] at d7
            have hx := xor_u8 (pl.getD i 0) x
            rw [← (HAT.out) i hlt] at hx
            have hset : (bl.take i ++ pl.drop i).set i (bl.getD i 0) = bl.take (i + 1) ++ pl.drop (i + 1) := by
              have h1 : (bl.take i).length = i := by rw [List.length_take, BK.out]; omega
              have h2 : bl.take (i + 1) = bl.take i ++ [bl.getD i 0] := by rw [List.take_add_one, show bl[i]? = some (bl.getD i 0) from by simp [List.getD, BK.out, hlt]]; rfl
              have h3 : pl.drop i = pl.getD i 0 :: pl.drop (i + 1) := by rw [List.drop_eq_getElem_cons (by rw [PK.out]; exact hlt)]; simp [List.getD, PK.out, hlt]
              rw [h3, List.set_append_right _ _ (by omega), h1, Nat.sub_self, List.set_cons_zero, h2, List.append_assoc]
              rfl
            have HN := Lib.hid (hput (bl.getD i 0))
            rw [hset] at HN
            obtain ⟨pi, hpi⟩ : ∃ p, p = pl.getD i 0 := ⟨_, rfl⟩
            obtain ⟨bi, hbi⟩ : ∃ p, p = bl.getD i 0 := ⟨_, rfl⟩
            rw [← hpi] at d7 hx
            rw [← hbi] at hx HN
            have KS := Lib.hid hS
            have HF := Lib.hid hF
            clear hpi hbi hS hF hput hset hel hn7 hc7 hL e6
            go_wp2_with fail
            go_roundw
            case measure => simp [intOf]; omega
            case rel => exact ⟨i + 1, by omega, by go_num, (HN.out).1, (KS.out).thenFr HF.out (HN.out).2⟩
          · obtain rfl : i = 64 := by omega
            have e : bl.take 64 ++ pl.drop 64 = bl := by rw [List.take_of_length_le (by rw [BK.out]; omega), List.drop_of_length_le (by rw [PK.out]; omega), List.append_nil]
            rw [e, HBL.out] at hS
            clear e
            go_wp2_with fail
            go_ret
            exact ⟨A, c, rfl, hS, hF⟩
end Go.Proofs.Ytjkcbklgddnbdaa
