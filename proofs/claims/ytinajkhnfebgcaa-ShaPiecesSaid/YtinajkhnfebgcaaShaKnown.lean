/- Some of the chapter's rows. No condition. -/
import Derived.Test.YtinajkhnfebgcaaShaSum2
import Derived.Test.YtinajkhnfebgcaaArrRd
import Derived.Lib.SlBytesConst
set_option linter.unusedSimpArgs false
namespace Go.Proofs.Ytinajkhnfebgcaa
open Go.RowKit

theorem turn63 : turnN 63 = 3329325298 := by decide +kernel
theorem turn63_any (w : World) : Calls Try.prog 11 #[.int .i64 63] w fun e w' => e = .returned (.int .u32 3329325298) ∧ w = w' := by
  have h := turn_any 63 w
  rw [show turnI 63 = ((turnN 63 : Nat) : Int) from rfl, turn63] at h
  exact h
def L0 : List UInt8 := [0xe3, 0xb0, 0xc4, 0x42, 0x98, 0xfc, 0x1c, 0x14, 0x9a, 0xfb, 0xf4, 0xc8, 0x99, 0x6f, 0xb9, 0x24, 0x27, 0xae, 0x41, 0xe4, 0x64, 0x9b, 0x93, 0x4c, 0xa4, 0x95, 0x99, 0x1b, 0x78, 0x52, 0xb8, 0x55]
def L1 : List UInt8 := [0xba, 0x78, 0x16, 0xbf, 0x8f, 0x01, 0xcf, 0xea, 0x41, 0x41, 0x40, 0xde, 0x5d, 0xae, 0x22, 0x23, 0xb0, 0x03, 0x61, 0xa3, 0x96, 0x17, 0x7a, 0x9c, 0xb4, 0x10, 0xff, 0x61, 0xf2, 0x00, 0x15, 0xad]
theorem sum0_any (w : World) : Calls Try.prog 14 #[.slice none 0 0] w fun e w' => e = .returned (.agg (byts L0).toArray) ∧ Fr0 w w' := by
  have h := sum_any (w := w) (lv := .slice none 0 0) (ds := []) (vs := []) (Rd.nil w 1) (fun i hi => by simp at hi) (by simp)
  rw [show shaN ([] : List (List UInt8)).flatten = L0 from sha_none] at h
  exact h
theorem sum1_any {w : World} {g : Nat} {v1 v2 : Value} (hb : ∃ fz, w.heap[g]? = some (.cells #[v1, .slice none 0 0, v2] 27 fz)) (h1 : RdB w v1 [97]) (h2 : RdB w v2 [98, 99]) :
    Calls Try.prog 14 #[.slice (some ⟨g, 0, none⟩) 3 3] w fun e w' => e = .returned (.agg (byts L1).toArray) ∧ Fr0 w w' := by
  obtain ⟨fz, hb⟩ := hb
  have h := sum_any (w := w) (lv := .slice (some ⟨g, 0, none⟩) 3 3) (ds := [[97], [], [98, 99]]) (vs := [v1, .slice none 0 0, v2])
    ⟨rfl, ⟨_, _, rfl, by decide, by unfold maxLen; simp, fun h => by cases h⟩, fun _ => ⟨g, 0, 3, _, _, _, rfl, hb, fun j u hu => by simpa using hu⟩⟩
    (fun i hi => by
      simp at hi
      rcases (by omega : i = 0 ∨ i = 1 ∨ i = 2) with rfl | rfl | rfl
      · exact ⟨v1, rfl, h1⟩
      · exact ⟨_, rfl, RdB.nil w⟩
      · exact ⟨v2, rfl, h2⟩) (by simp)
  rw [show shaN ([[97], [], [98, 99]] : List (List UInt8)).flatten = L1 from sha_abc] at h
  exact h
theorem sum1_w (W : World) : Calls Try.prog 14 #[.slice (some ⟨W.heap.size + 1 + 1, 0, none⟩) 3 3]
    (((W.alloc (.cells #[.int .u8 97] 5 (1, 2))).alloc (.cells #[.int .u8 98, .int .u8 99] 5 (2, 3))).alloc (.cells #[.slice (some ⟨W.heap.size, 0, none⟩) 1 1, .slice none 0 0, .slice (some ⟨W.heap.size + 1, 0, none⟩) 2 2] 27))
    fun e w' => e = .returned (.agg (byts L1).toArray) ∧ Fr0 W w' := by
  have e1 : (W.alloc (.cells #[.int .u8 97] 5 (1, 2))).heap.size = W.heap.size + 1 := Array.size_push _
  have e2 : ((W.alloc (.cells #[.int .u8 97] 5 (1, 2))).alloc (.cells #[.int .u8 98, .int .u8 99] 5 (2, 3))).heap.size = W.heap.size + 1 + 1 := by rw [← e1]; exact Array.size_push _
  have h2 := heap_alloc_new ((W.alloc (.cells #[.int .u8 97] 5 (1, 2))).alloc (.cells #[.int .u8 98, .int .u8 99] 5 (2, 3))) (.cells #[.slice (some ⟨W.heap.size, 0, none⟩) 1 1, .slice none 0 0, .slice (some ⟨W.heap.size + 1, 0, none⟩) 2 2] 27)
  rw [e2] at h2
  have r1 : RdB (W.alloc (.cells #[.int .u8 97] 5 (1, 2))) (.slice (some ⟨W.heap.size, 0, none⟩) 1 1) [97] := lit_bytes W 5 [97] (by simp) (1, 2)
  have r2 : RdB ((W.alloc (.cells #[.int .u8 97] 5 (1, 2))).alloc (.cells #[.int .u8 98, .int .u8 99] 5 (2, 3))) (.slice (some ⟨W.heap.size + 1, 0, none⟩) 2 2) [98, 99] := by
    have h := lit_bytes (W.alloc (.cells #[.int .u8 97] 5 (1, 2))) 5 [98, 99] (by simp) (2, 3)
    rw [e1] at h
    exact h
  have f2 := Fr0.alloc (Fr0.refl (W.alloc (.cells #[.int .u8 97] 5 (1, 2)))) (.cells #[.int .u8 98, .int .u8 99] 5 (2, 3))
  have f3 := Fr0.alloc (Fr0.refl ((W.alloc (.cells #[.int .u8 97] 5 (1, 2))).alloc (.cells #[.int .u8 98, .int .u8 99] 5 (2, 3)))) (.cells #[.slice (some ⟨W.heap.size, 0, none⟩) 1 1, .slice none 0 0, .slice (some ⟨W.heap.size + 1, 0, none⟩) 2 2] 27)
  refine (sum1_any ⟨_, h2⟩ (r1.fr0 (Fr0.trans f2 f3)) (r2.fr0 f3)).mono ?_
  rintro e w' ⟨rfl, hf⟩
  exact ⟨rfl, Fr0.trans (Fr0.trans ((Fr0.refl W).alloc _) (Fr0.trans f2 f3)) hf⟩
set_option maxHeartbeats 2000000 in
set_option maxRecDepth 10000 in
theorem known02_any (w : World) : Calls Try.prog 13 #[] w fun e w' => e = .returned (.bool true) ∧ Fr0 w w' := by
  have hcv := fun (w : World) (C : Array Value) (n c : Nat) => Lib.run_convert_bytes_const (P := Try.prog) w 27 5 C n c Try.underlying27 Try.underlying5
  have hcv2 := fun (w : World) (o : Obj) (C : Array Value) (n c : Nat) => show (convert 27 27 (.slice (some ⟨w.heap.size + 1, 0, none⟩) n c)).run Try.prog ((w.alloc o).alloc (.cells C 5)) = .ok (.slice (some ⟨w.heap.size + 1, 0, none⟩) n c) ((w.alloc o).alloc (.cells C 5 (C.size, C.size + 1))) from by
    have h := Lib.run_convert_bytes_const (P := Try.prog) (w.alloc o) 27 5 C n c Try.underlying27 Try.underlying5
    rw [show (w.alloc o).heap.size = w.heap.size + 1 from Array.size_push _] at h
    exact h
  have HS0 := Lib.hid (fun W => sum0_any W)
  obtain ⟨z32, hz32⟩ : ∃ z, z = (byts (List.replicate 32 0)).toArray := ⟨_, rfl⟩
  have hrun : ∀ W : World, (Instr.alloc 28 true (.tuple #[])).run Try.prog W = .ok (.pointer (some ⟨W.heap.size, 0, none⟩)) (W.alloc (.cells z32 28)) := by rw [hz32]; exact fun _ => by kernel_rfl
  have HRUN := Lib.hid hrun
  have HS1 := Lib.hid (fun W => sum1_w W)
  have hi0 : (Try.prog.info? 28).map (·.size) = some (byts L0).toArray.size := by kernel_rfl
  have hi1 : (Try.prog.info? 28).map (·.size) = some (byts L1).toArray.size := by kernel_rfl
  have ho0 : z32.size = (byts L0).toArray.size := by rw [hz32]; rfl
  have ho1 : z32.size = (byts L1).toArray.size := by rw [hz32]; rfl
  clear hrun hz32
  go_enter Try.func13, Try.ntmps13
  go_upto_region 2 with (first
    | (have _q := F1; go_at_call 14; refine (HS1.out _).mono ?_; rintro e w2 ⟨rfl, hf⟩; have F2 := Lib.hid (Fr0.trans F1.out hf); clear hf)
    | (go_at_call 14; refine (HS0.out _).mono ?_; rintro e w1 ⟨rfl, hf⟩; have F1 := Lib.hid hf; clear hf)
    | (have _q := BA; refine list_alloc_blk rfl 28 rfl z32 HRUN.out ?_; intro gb w4 hB hF hl; have BB := Lib.hid hB; have BA4 := Lib.hid ((BA.out).fr0 hF); have F4 := Lib.hid (Fr0.trans F3.out hF); have lb := Lib.hid hl; clear hB hF hl)
    | (refine list_alloc_blk rfl 28 rfl z32 HRUN.out ?_; intro ga w3 hB hF hl; have BA := Lib.hid hB; have F3 := Lib.hid (Fr0.trans F2.out hF); have la := Lib.hid (And.intro hl (Nat.le_trans (F2.out).size hl)); clear hB hF hl)
    | (have _q := F5; refine list_store_blk rfl 28 _ _ rfl gb _ rfl rfl 28 _ BB5.out hi1 ho1 (byts_all L1) ?_; intro w6 hB hF; have BB6 := Lib.hid hB; have BA6 := Lib.hid ((BA5.out).fr1 hF (by have := lb.out; have := (BA.out).lt; omega)); have F6 := Lib.hid (Fr0.new F5.out hF (by have := (F3.out).size; have := lb.out; omega)); clear hB hF)
    | (have _q := F4; refine list_store_blk rfl 28 _ _ rfl ga _ rfl rfl 28 _ BA4.out hi0 ho0 (byts_all L0) ?_; intro w5 hB hF; have BA5 := Lib.hid hB; have BB5 := Lib.hid ((BB.out).fr1 hF (by have := lb.out; have := (BA.out).lt; omega)); have F5 := Lib.hid (Fr0.new F4.out hF (la.out).2); clear hB hF)
    )
  simp only [Act.put]
  have c1 : (convert 27 9 (.slice (some ⟨ga, 0, none⟩) 4 32)).run Try.prog w6 = .ok (.string ⟨#[227, 176, 196, 66]⟩) w6 := conv_bytes (d := [227, 176, 196, 66]) w6 _ _ _ Try.underlying27 Try.underlying5 Try.underlying9 (arr_rd BA6.out (o := 0) (k := 4) (by decide) (by decide) (by unfold maxLen; decide))
  have c2 : (convert 27 9 (.slice (some ⟨gb, 0, none⟩) 4 32)).run Try.prog w6 = .ok (.string ⟨#[186, 120, 22, 191]⟩) w6 := conv_bytes (d := [186, 120, 22, 191]) w6 _ _ _ Try.underlying27 Try.underlying5 Try.underlying9 (arr_rd BB6.out (o := 0) (k := 4) (by decide) (by decide) (by unfold maxLen; decide))
  have c3 : (convert 27 9 (.slice (some ⟨gb, 28, none⟩) 4 4)).run Try.prog w6 = .ok (.string ⟨#[242, 0, 21, 173]⟩) w6 := conv_bytes (d := [242, 0, 21, 173]) w6 _ _ _ Try.underlying27 Try.underlying5 Try.underlying9 (arr_rd BB6.out (o := 28) (k := 4) (by decide) (by decide) (by unfold maxLen; decide))
  have HT63 := Lib.hid (turn63_any w6)
  clear hcv hcv2 hi0 hi1 ho0 ho1
  go_wp2_with (go_at_call 11; refine (HT63.out).mono ?_; rintro e w' ⟨rfl, rfl⟩)
  go_ret
  exact ⟨rfl, F6.out⟩
end Go.Proofs.Ytinajkhnfebgcaa
