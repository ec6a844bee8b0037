/- aes.add: a block with a round added. Conditions stand in the statements. -/
import Derived.Test.YtgcjbbliaelkcaaAesSw
set_option linter.unusedSimpArgs false
set_option linter.unusedVariables false
namespace Go.Proofs.Ytgcjbbliaelkcaa
open Go.RowKit

theorem a16_info {d : List UInt8} (h : d.length = 16) : (Try.prog.info? 22).map (·.size) = some (byts d).toArray.size := by rw [byts_size, h]; kernel_rfl
def z16A : Array Value := (byts (List.replicate 16 0)).toArray
theorem z16_run (W : World) : (Instr.alloc 22 true (.tuple #[])).run Try.prog W = .ok (.pointer (some ⟨W.heap.size, 0, none⟩)) (W.alloc (.cells z16A 22)) := by kernel_rfl
theorem z16_size {d : List UInt8} (h : d.length = 16) : z16A.size = (byts d).toArray.size := by rw [byts_size, h]; rfl
set_option maxHeartbeats 4000000 in
set_option maxRecDepth 10000 in
theorem aadd_any {b r : List UInt8} (hb : b.length = 16) (hr : r.length = 16) (w : World) : Calls Try.prog 75 #[.agg (byts b).toArray, .agg (byts r).toArray] w fun e w' => e = .returned (.agg (byts (adL b r)).toArray) ∧ Fr0 w w' := by
  have TL := Lib.hid (show (adL b r).length = 16 from map16_len _)
  have TA := Lib.hid (fun i (h : i < 16) => show (adL b r).getD i 0 = b.getD i 0 ^^^ r.getD i 0 from map16_at _ h)
  have B0 := Lib.hid (Blk.new w (byts b).toArray 22)
  have R0 := Lib.hid (show Blk ((w.alloc (.cells (byts b).toArray 22)).alloc (.cells (byts r).toArray 22)) (w.heap.size + 1) (byts r).toArray 22 by have := Blk.new (w.alloc (.cells (byts b).toArray 22)) (byts r).toArray 22; simpa using this)
  have HI := Lib.hid (a16_info (map16_len (fun i => b.getD i 0 ^^^ r.getD i 0)))
  have HZ := Lib.hid (z16_size (map16_len (fun i => b.getD i 0 ^^^ r.getD i 0)))
  have ha8 := byts_all (adL b r)
  have HBL := Lib.hid hb
  have HRL := Lib.hid hr
  have HRUN := Lib.hid (fun W => z16_run W)
  obtain ⟨T, hT⟩ : ∃ T, T = adL b r := ⟨_, rfl⟩
  have HT := Lib.hid hT
  obtain ⟨z, hz⟩ : ∃ z, z = z16A := ⟨_, rfl⟩
  obtain ⟨cb, hcb⟩ : ∃ c, c = (byts b).toArray := ⟨_, rfl⟩
  obtain ⟨cr, hcr⟩ : ∃ c, c = (byts r).toArray := ⟨_, rfl⟩
  rw [← hT] at TL TA ha8 ⊢
  rw [← hz] at HRUN HZ
  rw [← hcb] at B0 R0 ⊢
  rw [← hcr] at R0 ⊢
  have HCB := Lib.hid hcb
  have HCR := Lib.hid hcr
  clear hT hz hcb hcr hb hr
  go_enter Try.func75, Try.ntmps75
  go_upto_region 2 with (refine list_alloc_blk rfl 22 rfl z HRUN.out ?_; intro g4 w4 hB hF hl; have Z4 := Lib.hid hB; have FF := Lib.hid hF; have L4 := Lib.hid hl; clear hB hF hl)
  have B4 := Lib.hid (((B0.out).alloc _).fr0 FF.out)
  have R4 := Lib.hid ((R0.out).fr0 FF.out)
  have F4 := Lib.hid (show Fr0 w w4 from Fr0.trans (((Fr0.refl w).alloc _).alloc _) FF.out)
  have hg := L4.out
  simp only [World.size_alloc] at hg
  obtain ⟨gb, hgb⟩ : ∃ g, g = w.heap.size := ⟨_, rfl⟩
  obtain ⟨gr, hgr⟩ : ∃ g, g = w.heap.size + 1 := ⟨_, rfl⟩
  rw [← hgb] at B4
  rw [← hgr] at R4
  rw [← hgr, ← hgb]
  have n1 : gb ≠ gr := by omega
  have n2 : gr ≠ gb := by omega
  have n3 : g4 ≠ gb := by omega
  have LB := Lib.hid (show w.heap.size ≤ gb by omega)
  have LG := Lib.hid (show w.heap.size ≤ g4 by omega)
  clear hgb hgr B0 R0 FF L4 hg
  go_loopw [6] (fun v6 wr => ∃ i : Nat, i ≤ 16 ∧ v6 = .int .i64 (i : Int) ∧ Blk wr gb (byts (overU T b i)).toArray 22 ∧ Blk wr gr cr 22 ∧ Blk wr g4 z 22 ∧ Fr0 w wr) (fun v6 _ => 16 - (intOf v6).toNat)
  case atStart => exact ⟨0, by omega, rfl, by have h := B4.out; rw [HCB.out] at h; exact h, R4.out, Z4.out, F4.out⟩
  case round =>
    obtain ⟨i, hi, rfl, hB, hR, hZ, hF⟩ := hrel
    clear B4 R4 Z4 F4
    by_cases hlt : i < 16
    · have c0 := hB.u8 (i := i) (by rw [overU_len TL.out HBL.out hi]; exact hlt)
      rw [overU_at TL.out HBL.out hi] at c0
      have f0 := hB.free i
      have hR' := hR
      rw [HCR.out] at hR'
      have c1 := hR'.u8 (i := i) (by rw [HRL.out]; exact hlt)
      have hx := xorU (b.getD i 0) (r.getD i 0)
      rw [← TA.out i hlt] at hx
      have HN := Lib.hid (hB.over TL.out HBL.out hlt)
      have HF := Lib.hid hF
      have KR := Lib.hid hR
      have KZ := Lib.hid hZ
      have i0 : (0 : Int) ≤ (i : Int) := by omega
      have i1 : (i : Int) < 16 := by omega
      obtain ⟨x, hxx⟩ : ∃ x, x = b.getD i 0 := ⟨_, rfl⟩
      obtain ⟨y, hyy⟩ : ∃ x, x = r.getD i 0 := ⟨_, rfl⟩
      obtain ⟨t, htt⟩ : ∃ x, x = T.getD i 0 := ⟨_, rfl⟩
      rw [← hxx] at c0 hx
      rw [← hyy] at c1 hx
      rw [← htt] at hx HN
      clear hxx hyy htt hB hR hR' hZ hF
      go_wp2_with fail
      have FS := Lib.hid (((Fr1.refl gb wr).set i (.int .u8 (t.toNat : Int))).drew)
      go_still_tail 8, (by kernel_rfl)
      go_wp2_with fail
      go_roundw
      case rel => exact ⟨i + 1, by omega, by go_num, (HN.out).drew, (KR.out).fr1 FS.out n2, (KZ.out).fr1 FS.out n3, Fr0.new HF.out FS.out LB.out⟩
      case measure => simp [intOf]; omega
    · obtain rfl : i = 16 := by omega
      rw [overU_all TL.out HBL.out] at hB
      have hi8 := HI.out
      have hz8 := HZ.out
      have e : (List.map (fun i => b.getD i 0 ^^^ r.getD i 0) (List.range 16)) = T := by rw [HT.out]; rfl
      rw [e] at hi8 hz8
      obtain ⟨cs, hcs⟩ : ∃ c, c = (byts T).toArray := ⟨_, rfl⟩
      rw [← hcs] at hB hi8 hz8 ha8
      have HCS := Lib.hid hcs
      have KB := Lib.hid hB
      have KZ := Lib.hid hZ
      have HF := Lib.hid hF
      have HI8 := Lib.hid hi8
      have HZ8 := Lib.hid hz8
      clear hB hR hZ hF hi8 hz8 hcs e
      go_wp2_with (first
        | (refine list_load_blk rfl 22 _ rfl gb rfl 22 cs KB.out _ Try.underlying22 rfl HI8.out ?_)
        | (refine list_store_blk rfl 22 _ _ rfl g4 cs rfl rfl 22 z KZ.out HI8.out HZ8.out ha8 ?_; intro w5 hB hF; have C5 := Lib.hid hB; have F5 := Lib.hid (Fr0.new HF.out hF LG.out); clear hB hF))
      refine bodyPost_ret (v := .agg cs) (results_cell_row rfl _ _ g4 22 cs (0, 0) _ rfl C5.out Try.underlying22 rfl HI8.out) rfl ⟨by rw [HCS.out], F5.out⟩
end Go.Proofs.Ytgcjbbliaelkcaa
