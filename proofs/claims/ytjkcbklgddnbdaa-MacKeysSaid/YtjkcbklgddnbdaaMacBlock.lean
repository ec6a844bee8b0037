/- mac.block: a key's block, each byte exclusive or one. Conditions stand in the statements. -/
import Derived.Test.YtjkcbklgddnbdaaMacLaw
import Derived.Test.YtjkcbklgddnbdaaShaEq
import Derived.Test.YtjkcbklgddnbdaaArgsBp
set_option linter.unusedSimpArgs false
namespace Go.Proofs.Ytjkcbklgddnbdaa
open Go.RowKit

/-- A slice of one byte slice, built where it stands. -/
theorem sum_one {w : World} {v : Value} {d : List UInt8} (h : RdB w v d) (hl : d.length ≤ 900000) : Calls Try.prog 11 #[.slice (some ⟨w.heap.size, 0, none⟩) 1 1] (w.alloc (.cells #[v] 22)) fun e w' => e = .returned (.agg (byts (shaN d)).toArray) ∧ Fr0 w w' := by
  have h1 := sum_any (w := w.alloc (.cells #[v] 22)) (lv := .slice (some ⟨w.heap.size, 0, none⟩) 1 1) (ds := [d]) (vs := [v])
    ⟨rfl, ⟨_, _, rfl, by simp, by unfold maxLen; simp, fun h => by cases h⟩, fun _ => ⟨w.heap.size, 0, 1, _, _, _, rfl, heap_alloc_new w _, fun j u hu => by simpa using hu⟩⟩
    (fun i hi => by
      simp at hi
      subst hi
      exact ⟨v, rfl, h.fr0 ((Fr0.refl w).alloc _)⟩) (by simpa using hl)
  refine h1.mono ?_
  rintro e w' ⟨rfl, hf⟩
  exact ⟨by simp, Fr0.trans ((Fr0.refl w).alloc _) hf⟩
set_option maxHeartbeats 2000000 in
set_option maxRecDepth 10000 in
theorem mblock_any {v : Value} {key : List UInt8} {w : World} (x : UInt8) (h : RdB w v key) (hl : key.length ≤ 900000) :
    Calls Try.prog 16 #[v, .int .u8 (x.toNat : Int)] w fun e w' => ∃ g, e = .returned (.slice (some ⟨g, 0, none⟩) 64 64) ∧ Blk w' g (byts (blockN key x)).toArray 56 ∧ w.heap.size ≤ g ∧ Fr0 w w' := by
  obtain ⟨Av, cv, rfl, -, -, -⟩ := h.form
  obtain ⟨z64, hz64⟩ : ∃ z, z = (byts (List.replicate 64 0)).toArray := ⟨_, rfl⟩
  have hrun64 : ∀ W : World, (Instr.alloc 56 true (.tuple #[])).run Try.prog W = .ok (.pointer (some ⟨W.heap.size, 0, none⟩)) (W.alloc (.cells z64 56)) := by rw [hz64]; exact fun _ => by kernel_rfl
  have HRUN64 := Lib.hid hrun64
  have HZ := Lib.hid hz64
  have hxb : (x.toNat : Int) < 256 := by have := x.toNat_lt; omega
  have HKE := Lib.hid (show RdB w (.slice Av key.length cv) key from h)
  obtain ⟨nk, hnk⟩ : ∃ n, n = key.length := ⟨_, rfl⟩
  rw [← hnk] at hl ⊢
  by_cases hg : nk ≤ 64
  · have HKN := Lib.hid (show keyN key = key from keyN_small (by omega))
    have HR := Lib.hid (show RdB w (.slice Av nk cv) (keyN key) from by rw [HKN.out, hnk]; exact h)
    clear hz64 hrun64 hnk h HKN
    go_enter Try.func16, Try.ntmps16
    go_upto_region 5 with (refine list_alloc_blk rfl 56 rfl z64 HRUN64.out ?_; intro g5 w1 hB hF hl5; have B5 := Lib.hid hB; have F5 := Lib.hid hF; have L5 := Lib.hid hl5; have RK := Lib.hid ((HR.out).fr0 hF); clear hB hF hl5)
    have hgl := L5.out
    have KN := Lib.hid (keyN_le key)
    have PK := Lib.hid (padK_len key)
    have BK := Lib.hid (blockN_len key x)
    have HAT := Lib.hid (fun i (h : i < 64) => blockN_at key x i h)
    have HPZ := Lib.hid (show putAt (byts (List.replicate 64 0)).toArray 0 (byts ((keyN key).take 64)) = (byts (padK key)).toArray from by
      rw [List.take_of_length_le (keyN_le key), putAt_zeros (keyN_le key)]; unfold padK; first | done | rfl)
    obtain ⟨kn, hkn⟩ : ∃ k, k = keyN key := ⟨_, rfl⟩
    rw [← hkn] at RK KN HPZ
    obtain ⟨pl, hpl⟩ : ∃ p, p = padK key := ⟨_, rfl⟩
    rw [← hpl] at PK HPZ HAT
    obtain ⟨bl, hbl⟩ : ∃ b, b = blockN key x := ⟨_, rfl⟩
    rw [← hbl] at BK HAT
    have HBL := Lib.hid hbl
    obtain ⟨pc, hpc⟩ : ∃ p, p = putAt z64 0 (byts (kn.take 64)) := ⟨_, rfl⟩
    have HPC := Lib.hid (show pc = (byts pl).toArray from hpc.trans (by rw [HZ.out]; exact HPZ.out))
    have hkl : (kn.take 64).length ≤ 64 := by rw [List.length_take]; omega
    have hzs : z64.size = 64 := by rw [HZ.out]; rfl
    have HZS := Lib.hid hzs
    have HKL := Lib.hid hkl
    obtain ⟨cn, hcn⟩ : ∃ c : Int, c = ((kn.take 64).length : Int) := ⟨_, rfl⟩
    have HPCC := Lib.hid hpc
    have HCN := Lib.hid hcn
    clear hkn hpl hbl hpc hkl hzs hcn
    go_wp2_with (refine list_copy_rd rfl _ _ 22 22 rfl 5 Try.underlying22 (by kernel_rfl) rfl rfl (RK.out) B5.out (by rw [HZS.out]; have := HKL.out; omega) ?_; intro w6 hB hF; rw [← HPCC.out] at hB; have B6 := Lib.hid hB; have F6 := Lib.hid (Fr0.new F5.out hF hgl); rw [show goInt ((kn.take 64).length : Int) = .int .i64 cn from by rw [HCN.out]; rfl]; clear hB hF)
    go_loopw [18] (fun v18 wr => ∃ i : Nat, i ≤ 64 ∧ v18 = .int .i64 i ∧ Blk wr g5 (byts (bl.take i ++ pl.drop i)).toArray 56 ∧ Fr0 w wr) (fun v18 _ => 64 - (intOf v18).toNat)
    case atStart => exact ⟨0, by omega, rfl, by have h := B6.out; rw [HPC.out] at h; exact h, F6.out⟩
    case round =>
      obtain ⟨i, hi, rfl, hB, hF⟩ := hrel
      by_cases hlt : i < 64
      · have i0 : (0 : Int) ≤ (i : Int) := by omega
        have i1 : (i : Int) < 64 := by omega
        have d0 := hB.cell i (take_set_xor PK.out BK.out hlt)
        have f0 := hB.free i
        have hx := xor_u8 (pl.getD i 0) x
        rw [← (HAT.out) i hlt] at hx
        have HN := Lib.hid (show Blk (wr.setCell ⟨g5, i, none⟩ (.int .u8 ((bl.getD i 0).toNat : Int))) g5 (byts (bl.take (i + 1) ++ pl.drop (i + 1))).toArray 56 from by
          have h := hB.set i (.int .u8 ((bl.getD i 0).toNat : Int))
          rw [bhalf_set BK.out PK.out hlt] at h
          exact h)
        obtain ⟨pi, hpi⟩ : ∃ p, p = pl.getD i 0 := ⟨_, rfl⟩
        obtain ⟨bi, hbi⟩ : ∃ p, p = bl.getD i 0 := ⟨_, rfl⟩
        rw [← hpi] at d0 hx
        rw [← hbi] at hx HN
        have HF := Lib.hid hF
        clear hpi hbi hB hF
        go_wp2_with fail
        go_roundw
        case measure => simp [intOf]; omega
        case rel => exact ⟨i + 1, by omega, by go_num, HN.out, Fr.setCell (p := ⟨g5, i, none⟩) HF.out (.inr hgl) _⟩
      · obtain rfl : i = 64 := by omega
        have e : bl.take 64 ++ pl.drop 64 = bl := by rw [List.take_of_length_le (by rw [BK.out]; omega), List.drop_of_length_le (by rw [PK.out]; omega), List.append_nil]
        rw [e, HBL.out] at hB
        clear e
        go_wp2_with fail
        go_ret
        exact ⟨g5, rfl, hB, hgl, hF⟩

  · have HKN := Lib.hid (show keyN key = shaN key from keyN_great (by omega))
    have hgt : (64 : Int) < (nk : Int) := by omega
    have HSU := Lib.hid (fun (W : World) (hf : Fr0 w W) => show Calls Try.prog 11 #[.slice (some ⟨W.heap.size, 0, none⟩) 1 1] (W.alloc (.cells #[.slice Av nk cv] 22)) (fun e w' => e = .returned (.agg (byts (keyN key)).toArray) ∧ Fr0 W w') from by
      rw [HKN.out, hnk]
      exact sum_one (h.fr0 hf) (by omega))
    have h32 : (keyN key).length = 32 := by rw [HKN.out]; exact sha_len key
    have hi32 := dig_info h32
    have ho32 := z32_size h32
    have ha32 := byts_all (keyN key)
    have HRUN32 := Lib.hid (fun W => z32_run W)
    obtain ⟨z32, hz32⟩ : ∃ z, z = z32A := ⟨_, rfl⟩
    rw [← hz32] at HRUN32 ho32
    obtain ⟨s0, hs0⟩ : ∃ s, s = (byts (keyN key)).toArray := ⟨_, rfl⟩
    rw [← hs0] at HSU hi32 ho32 ha32
    have HS0 := Lib.hid hs0
    have HI := Lib.hid hi32
    have HO := Lib.hid ho32
    have H32 := Lib.hid h32
    clear hz64 hrun64 hnk h HKN hz32 hs0 hi32 ho32 h32
    go_enter Try.func16, Try.ntmps16
    go_upto_region 5 with (first
      | (refine list_alloc_blk rfl 56 rfl z64 HRUN64.out ?_; intro g5 w1 hB hF hl5; have B1 := Lib.hid hB; have F1 := Lib.hid hF; have L5 := Lib.hid hl5; clear hB hF hl5)
      | (go_at_call 11; refine (HSU.out _ F1.out).mono ?_; rintro e w2 ⟨rfl, hf⟩; have B2 := Lib.hid ((B1.out).fr0 hf); have F2 := Lib.hid (Fr0.trans F1.out hf); clear hf)
      | (refine list_alloc_blk rfl 25 rfl z32 HRUN32.out ?_; intro g6 w3 hB hF hl6; have C3 := Lib.hid hB; have B3 := Lib.hid ((B2.out).fr0 hF); have F3 := Lib.hid (Fr0.trans F2.out hF); have L6 := Lib.hid hl6; clear hB hF hl6)
      | (refine list_store_blk rfl 25 _ _ rfl g6 s0 rfl rfl 25 z32 C3.out HI.out HO.out ha32 ?_; intro w4 hB hF; have C4 := Lib.hid hB; have B5 := Lib.hid ((B3.out).fr1 hF (fun e => by have := (B2.out).lt; have := L6.out; omega)); have F5 := Lib.hid (Fr0.new F3.out hF (by have := (F2.out).size; have := L6.out; omega)); clear hB hF))
    have RK := Lib.hid (show RdB w4 (.slice (some ⟨g6, 0, none⟩) 32 32) (keyN key) from by
      have hb := C4.out
      rw [HS0.out] at hb
      have h := arr_rd hb (o := 0) (k := 32) (c := 32) (by rw [H32.out]; decide) (Nat.le_refl _) (by unfold maxLen; decide)
      rw [List.drop_zero, List.take_of_length_le (Nat.le_of_eq H32.out)] at h
      exact h)
    have hgl := L5.out
    have KN := Lib.hid (keyN_le key)
    have PK := Lib.hid (padK_len key)
    have BK := Lib.hid (blockN_len key x)
    have HAT := Lib.hid (fun i (h : i < 64) => blockN_at key x i h)
    have HPZ := Lib.hid (show putAt (byts (List.replicate 64 0)).toArray 0 (byts ((keyN key).take 64)) = (byts (padK key)).toArray from by
      rw [List.take_of_length_le (keyN_le key), putAt_zeros (keyN_le key)]; unfold padK; first | done | rfl)
    obtain ⟨kn, hkn⟩ : ∃ k, k = keyN key := ⟨_, rfl⟩
    rw [← hkn] at RK KN HPZ
    obtain ⟨pl, hpl⟩ : ∃ p, p = padK key := ⟨_, rfl⟩
    rw [← hpl] at PK HPZ HAT
    obtain ⟨bl, hbl⟩ : ∃ b, b = blockN key x := ⟨_, rfl⟩
    rw [← hbl] at BK HAT
    have HBL := Lib.hid hbl
    obtain ⟨pc, hpc⟩ : ∃ p, p = putAt z64 0 (byts (kn.take 64)) := ⟨_, rfl⟩
    have HPC := Lib.hid (show pc = (byts pl).toArray from hpc.trans (by rw [HZ.out]; exact HPZ.out))
    have hkl : (kn.take 64).length ≤ 64 := by rw [List.length_take]; omega
    have hzs : z64.size = 64 := by rw [HZ.out]; rfl
    have HZS := Lib.hid hzs
    have HKL := Lib.hid hkl
    obtain ⟨cn, hcn⟩ : ∃ c : Int, c = ((kn.take 64).length : Int) := ⟨_, rfl⟩
    have HPCC := Lib.hid hpc
    have HCN := Lib.hid hcn
    clear hkn hpl hbl hpc hkl hzs hcn
    go_wp2_with (refine list_copy_rd rfl _ _ 22 22 rfl 5 Try.underlying22 (by kernel_rfl) rfl rfl (RK.out) B5.out (by rw [HZS.out]; have := HKL.out; omega) ?_; intro w6 hB hF; rw [← HPCC.out] at hB; have B6 := Lib.hid hB; have F6 := Lib.hid (Fr0.new F5.out hF hgl); rw [show goInt ((kn.take 64).length : Int) = .int .i64 cn from by rw [HCN.out]; rfl]; clear hB hF)
    go_loopw [18] (fun v18 wr => ∃ i : Nat, i ≤ 64 ∧ v18 = .int .i64 i ∧ Blk wr g5 (byts (bl.take i ++ pl.drop i)).toArray 56 ∧ Fr0 w wr) (fun v18 _ => 64 - (intOf v18).toNat)
    case atStart => exact ⟨0, by omega, rfl, by have h := B6.out; rw [HPC.out] at h; exact h, F6.out⟩
    case round =>
      obtain ⟨i, hi, rfl, hB, hF⟩ := hrel
      by_cases hlt : i < 64
      · have i0 : (0 : Int) ≤ (i : Int) := by omega
        have i1 : (i : Int) < 64 := by omega
        have d0 := hB.cell i (take_set_xor PK.out BK.out hlt)
        have f0 := hB.free i
        have hx := xor_u8 (pl.getD i 0) x
        rw [← (HAT.out) i hlt] at hx
        have HN := Lib.hid (show Blk (wr.setCell ⟨g5, i, none⟩ (.int .u8 ((bl.getD i 0).toNat : Int))) g5 (byts (bl.take (i + 1) ++ pl.drop (i + 1))).toArray 56 from by
          have h := hB.set i (.int .u8 ((bl.getD i 0).toNat : Int))
          rw [bhalf_set BK.out PK.out hlt] at h
          exact h)
        obtain ⟨pi, hpi⟩ : ∃ p, p = pl.getD i 0 := ⟨_, rfl⟩
        obtain ⟨bi, hbi⟩ : ∃ p, p = bl.getD i 0 := ⟨_, rfl⟩
        rw [← hpi] at d0 hx
        rw [← hbi] at hx HN
        have HF := Lib.hid hF
        clear hpi hbi hB hF
        go_wp2_with fail
        go_roundw
        case measure => simp [intOf]; omega
        case rel => exact ⟨i + 1, by omega, by go_num, HN.out, Fr.setCell (p := ⟨g5, i, none⟩) HF.out (.inr hgl) _⟩
      · obtain rfl : i = 64 := by omega
        have e : bl.take 64 ++ pl.drop 64 = bl := by rw [List.take_of_length_le (by rw [BK.out]; omega), List.drop_of_length_le (by rw [PK.out]; omega), List.append_nil]
        rw [e, HBL.out] at hB
        clear e
        go_wp2_with fail
        go_ret
        exact ⟨g5, rfl, hB, hgl, hF⟩
end Go.Proofs.Ytjkcbklgddnbdaa
