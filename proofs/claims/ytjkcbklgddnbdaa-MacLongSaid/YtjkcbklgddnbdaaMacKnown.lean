/- Some of the chapter's rows. No condition. -/
import Derived.Test.YtjkcbklgddnbdaaMacOf
import Derived.Test.YtjkcbklgddnbdaaMacSame
import Derived.Lib.SlBytesConst
set_option linter.unusedSimpArgs false
namespace Go.Proofs.Ytjkcbklgddnbdaa
open Go.RowKit

def Mk0 : List UInt8 := [107, 101, 121]
def Mt1 : List UInt8 := [84, 104, 101, 32, 113, 117, 105, 99, 107, 32, 98, 114, 111, 119, 110, 32, 102, 111, 120, 32]
def Mt2 : List UInt8 := [106, 117, 109, 112, 115, 32, 111, 118, 101, 114, 32, 116, 104, 101, 32, 108, 97, 122, 121, 32, 100, 111, 103]
theorem mac_row0 : (macN Mk0 ([Mt1, Mt2] : List (List UInt8)).flatten).take 4 = [247, 188, 131, 244] := by decide +kernel
theorem mac_row1 : (macN [] ([] : List (List UInt8)).flatten).take 4 = [182, 19, 103, 154] := by decide +kernel
/-- A constant's bytes, written out and read. -/
theorem lit_at {w : World} {g n : Nat} (hg : g = w.heap.size) (d : List UInt8) (hd : d.length = n) (hn : n ≤ 1000) (fz : Nat × Nat) : RdB (w.alloc (.cells (byts d).toArray 5 fz)) (.slice (some ⟨g, 0, none⟩) n n) d := by
  subst hg hd
  exact lit_bytes w 5 d (by omega) fz
theorem mac_k (W : World) : Calls Try.prog 8 #[.slice (some ⟨W.heap.size, 0, none⟩) 3 3, .slice (some ⟨W.heap.size + 1 + 1 + 1, 0, none⟩) 2 2]
    ((((W.alloc (.cells #[.int .u8 107, .int .u8 101, .int .u8 121] 5 (3, 4))).alloc (.cells #[.int .u8 84, .int .u8 104, .int .u8 101, .int .u8 32, .int .u8 113, .int .u8 117, .int .u8 105, .int .u8 99, .int .u8 107, .int .u8 32, .int .u8 98, .int .u8 114, .int .u8 111, .int .u8 119, .int .u8 110, .int .u8 32, .int .u8 102, .int .u8 111, .int .u8 120, .int .u8 32] 5 (20, 21))).alloc (.cells #[.int .u8 106, .int .u8 117, .int .u8 109, .int .u8 112, .int .u8 115, .int .u8 32, .int .u8 111, .int .u8 118, .int .u8 101, .int .u8 114, .int .u8 32, .int .u8 116, .int .u8 104, .int .u8 101, .int .u8 32, .int .u8 108, .int .u8 97, .int .u8 122, .int .u8 121, .int .u8 32, .int .u8 100, .int .u8 111, .int .u8 103] 5 (23, 24))).alloc (.cells #[.slice (some ⟨W.heap.size + 1, 0, none⟩) 20 20, .slice (some ⟨W.heap.size + 1 + 1, 0, none⟩) 23 23] 22))
    fun e w' => e = .returned (.agg (byts (macN Mk0 ([Mt1, Mt2] : List (List UInt8)).flatten)).toArray) ∧ Fr0 W w' := by
  have e1 : (W.alloc (.cells #[.int .u8 107, .int .u8 101, .int .u8 121] 5 (3, 4))).heap.size = W.heap.size + 1 := Array.size_push _
  have e2 : ((W.alloc (.cells #[.int .u8 107, .int .u8 101, .int .u8 121] 5 (3, 4))).alloc (.cells #[.int .u8 84, .int .u8 104, .int .u8 101, .int .u8 32, .int .u8 113, .int .u8 117, .int .u8 105, .int .u8 99, .int .u8 107, .int .u8 32, .int .u8 98, .int .u8 114, .int .u8 111, .int .u8 119, .int .u8 110, .int .u8 32, .int .u8 102, .int .u8 111, .int .u8 120, .int .u8 32] 5 (20, 21))).heap.size = W.heap.size + 1 + 1 := by rw [← e1]; exact Array.size_push _
  have r0 : RdB (W.alloc (.cells #[.int .u8 107, .int .u8 101, .int .u8 121] 5 (3, 4))) (.slice (some ⟨W.heap.size, 0, none⟩) 3 3) Mk0 := lit_at rfl Mk0 rfl (by decide) (3, 4)
  generalize hW1 : W.alloc (.cells #[.int .u8 107, .int .u8 101, .int .u8 121] 5 (3, 4)) = W1 at *
  have r1 : RdB (W1.alloc (.cells #[.int .u8 84, .int .u8 104, .int .u8 101, .int .u8 32, .int .u8 113, .int .u8 117, .int .u8 105, .int .u8 99, .int .u8 107, .int .u8 32, .int .u8 98, .int .u8 114, .int .u8 111, .int .u8 119, .int .u8 110, .int .u8 32, .int .u8 102, .int .u8 111, .int .u8 120, .int .u8 32] 5 (20, 21))) (.slice (some ⟨W.heap.size + 1, 0, none⟩) 20 20) Mt1 := lit_at e1.symm Mt1 rfl (by decide) (20, 21)
  have f1 := Fr0.alloc (Fr0.refl W1) (.cells #[.int .u8 84, .int .u8 104, .int .u8 101, .int .u8 32, .int .u8 113, .int .u8 117, .int .u8 105, .int .u8 99, .int .u8 107, .int .u8 32, .int .u8 98, .int .u8 114, .int .u8 111, .int .u8 119, .int .u8 110, .int .u8 32, .int .u8 102, .int .u8 111, .int .u8 120, .int .u8 32] 5 (20, 21))
  generalize hW2 : W1.alloc (.cells #[.int .u8 84, .int .u8 104, .int .u8 101, .int .u8 32, .int .u8 113, .int .u8 117, .int .u8 105, .int .u8 99, .int .u8 107, .int .u8 32, .int .u8 98, .int .u8 114, .int .u8 111, .int .u8 119, .int .u8 110, .int .u8 32, .int .u8 102, .int .u8 111, .int .u8 120, .int .u8 32] 5 (20, 21)) = W2 at *
  have r2 : RdB (W2.alloc (.cells #[.int .u8 106, .int .u8 117, .int .u8 109, .int .u8 112, .int .u8 115, .int .u8 32, .int .u8 111, .int .u8 118, .int .u8 101, .int .u8 114, .int .u8 32, .int .u8 116, .int .u8 104, .int .u8 101, .int .u8 32, .int .u8 108, .int .u8 97, .int .u8 122, .int .u8 121, .int .u8 32, .int .u8 100, .int .u8 111, .int .u8 103] 5 (23, 24))) (.slice (some ⟨W.heap.size + 1 + 1, 0, none⟩) 23 23) Mt2 := lit_at e2.symm Mt2 rfl (by decide) (23, 24)
  have f2 := Fr0.alloc (Fr0.refl W2) (.cells #[.int .u8 106, .int .u8 117, .int .u8 109, .int .u8 112, .int .u8 115, .int .u8 32, .int .u8 111, .int .u8 118, .int .u8 101, .int .u8 114, .int .u8 32, .int .u8 116, .int .u8 104, .int .u8 101, .int .u8 32, .int .u8 108, .int .u8 97, .int .u8 122, .int .u8 121, .int .u8 32, .int .u8 100, .int .u8 111, .int .u8 103] 5 (23, 24))
  have e3 : (W2.alloc (.cells #[.int .u8 106, .int .u8 117, .int .u8 109, .int .u8 112, .int .u8 115, .int .u8 32, .int .u8 111, .int .u8 118, .int .u8 101, .int .u8 114, .int .u8 32, .int .u8 116, .int .u8 104, .int .u8 101, .int .u8 32, .int .u8 108, .int .u8 97, .int .u8 122, .int .u8 121, .int .u8 32, .int .u8 100, .int .u8 111, .int .u8 103] 5 (23, 24))).heap.size = W.heap.size + 1 + 1 + 1 := by rw [← e2]; exact Array.size_push _
  generalize hW3 : W2.alloc (.cells #[.int .u8 106, .int .u8 117, .int .u8 109, .int .u8 112, .int .u8 115, .int .u8 32, .int .u8 111, .int .u8 118, .int .u8 101, .int .u8 114, .int .u8 32, .int .u8 116, .int .u8 104, .int .u8 101, .int .u8 32, .int .u8 108, .int .u8 97, .int .u8 122, .int .u8 121, .int .u8 32, .int .u8 100, .int .u8 111, .int .u8 103] 5 (23, 24)) = W3 at *
  have h4 := heap_alloc_new W3 (.cells #[.slice (some ⟨W.heap.size + 1, 0, none⟩) 20 20, .slice (some ⟨W.heap.size + 1 + 1, 0, none⟩) 23 23] 22)
  rw [e3] at h4
  have f3 := Fr0.alloc (Fr0.refl W3) (.cells #[.slice (some ⟨W.heap.size + 1, 0, none⟩) 20 20, .slice (some ⟨W.heap.size + 1 + 1, 0, none⟩) 23 23] 22)
  have f01 : Fr0 W W1 := by rw [← hW1]; exact (Fr0.refl W).alloc _
  refine (mof_any (key := Mk0) (ds := [Mt1, Mt2]) (vs := [.slice (some ⟨W.heap.size + 1, 0, none⟩) 20 20, .slice (some ⟨W.heap.size + 1 + 1, 0, none⟩) 23 23]) (r0.fr0 (Fr0.trans f1 (Fr0.trans f2 f3))) (by decide)
    ⟨rfl, ⟨_, _, rfl, by simp, by unfold maxLen; simp, fun h => by cases h⟩, fun _ => ⟨_, 0, 2, _, _, _, rfl, h4, fun j u hu => by simpa using hu⟩⟩
    (fun i hi => by
      simp at hi
      rcases (by omega : i = 0 ∨ i = 1) with rfl | rfl
      · exact ⟨_, rfl, r1.fr0 (Fr0.trans f2 f3)⟩
      · exact ⟨_, rfl, r2.fr0 f3⟩) (by decide)).mono ?_
  rintro e w' ⟨rfl, hf⟩
  exact ⟨rfl, Fr0.trans f01 (Fr0.trans f1 (Fr0.trans f2 (Fr0.trans f3 hf)))⟩
theorem mac_0 (W : World) : Calls Try.prog 8 #[.slice none 0 0, .slice none 0 0] W fun e w' => e = .returned (.agg (byts (macN [] ([] : List (List UInt8)).flatten)).toArray) ∧ Fr0 W w' :=
  mof_any (RdB.nil W) (by simp) (ds := []) (vs := []) (Rd.nil W 1) (fun i hi => by simp at hi) (by simp)
theorem same_lit (W : World) (a b : List UInt8) {n m : Nat} (ha : a.length = n) (hb : b.length = m) (hn : n ≤ 100) (hm : m ≤ 100) : Calls Try.prog 10 #[.slice (some ⟨W.heap.size, 0, none⟩) n n, .slice (some ⟨W.heap.size + 1, 0, none⟩) m m]
    ((W.alloc (.cells (byts a).toArray 5 (n, n + 1))).alloc (.cells (byts b).toArray 5 (m, m + 1))) fun e w' => e = .returned (.bool (sameB a b)) ∧ Fr0 W w' := by
  have e1 : (W.alloc (.cells (byts a).toArray 5 (n, n + 1))).heap.size = W.heap.size + 1 := Array.size_push _
  refine (msame_any ((lit_at rfl a ha (by omega) _).fr0 ((Fr0.refl _).alloc _)) (lit_at e1.symm b hb (by omega) _)).mono ?_
  rintro e w' ⟨rfl, hf⟩
  exact ⟨rfl, Fr0.trans (((Fr0.refl W).alloc _).alloc _) hf⟩
theorem same_ab (W : World) : Calls Try.prog 10 #[.slice (some ⟨W.heap.size, 0, none⟩) 2 2, .slice (some ⟨W.heap.size + 1, 0, none⟩) 2 2]
    ((W.alloc (.cells #[.int .u8 97, .int .u8 98] 5 (2, 3))).alloc (.cells #[.int .u8 97, .int .u8 98] 5 (2, 3))) fun e w' => e = .returned (.bool true) ∧ Fr0 W w' := same_lit W [97, 98] [97, 98] rfl rfl (by decide) (by decide)
theorem same_a (W : World) : Calls Try.prog 10 #[.slice (some ⟨W.heap.size, 0, none⟩) 2 2, .slice (some ⟨W.heap.size + 1, 0, none⟩) 1 1]
    ((W.alloc (.cells #[.int .u8 97, .int .u8 98] 5 (2, 3))).alloc (.cells #[.int .u8 97] 5 (1, 2))) fun e w' => e = .returned (.bool false) ∧ Fr0 W w' := same_lit W [97, 98] [97] rfl rfl (by decide) (by decide)
set_option maxHeartbeats 4000000 in
set_option maxRecDepth 10000 in
theorem known03_any (w : World) : Calls Try.prog 7 #[] w fun e w' => e = .returned (.bool true) ∧ Fr0 w w' := by
  have hcv := fun (w : World) (C : Array Value) (n c : Nat) => Lib.run_convert_bytes_const (P := Try.prog) w 22 5 C n c Try.underlying22 Try.underlying5
  have hcv2 := fun (w : World) (o : Obj) (C : Array Value) (n c : Nat) => show (convert 22 22 (.slice (some ⟨w.heap.size + 1, 0, none⟩) n c)).run Try.prog ((w.alloc o).alloc (.cells C 5)) = .ok (.slice (some ⟨w.heap.size + 1, 0, none⟩) n c) ((w.alloc o).alloc (.cells C 5 (C.size, C.size + 1))) from by
    have h := Lib.run_convert_bytes_const (P := Try.prog) (w.alloc o) 22 5 C n c Try.underlying22 Try.underlying5
    rw [show (w.alloc o).heap.size = w.heap.size + 1 from Array.size_push _] at h
    exact h
  have hcv3 := fun (w : World) (o o2 : Obj) (C : Array Value) (n c : Nat) => show (convert 22 22 (.slice (some ⟨w.heap.size + 1 + 1, 0, none⟩) n c)).run Try.prog (((w.alloc o).alloc o2).alloc (.cells C 5)) = .ok (.slice (some ⟨w.heap.size + 1 + 1, 0, none⟩) n c) (((w.alloc o).alloc o2).alloc (.cells C 5 (C.size, C.size + 1))) from by
    have h := Lib.run_convert_bytes_const (P := Try.prog) ((w.alloc o).alloc o2) 22 5 C n c Try.underlying22 Try.underlying5
    rw [show ((w.alloc o).alloc o2).heap.size = w.heap.size + 1 + 1 from by rw [← show (w.alloc o).heap.size = w.heap.size + 1 from Array.size_push _]; exact Array.size_push _] at h
    exact h
  have HM0 := Lib.hid (mac_k w)
  have HM1 := Lib.hid (fun W => mac_0 W)
  have l0 := macN_len Mk0 ([Mt1, Mt2] : List (List UInt8)).flatten
  have l1 := macN_len [] ([] : List (List UInt8)).flatten
  have r0 := mac_row0
  have r1 := mac_row1
  obtain ⟨d0, hd0⟩ : ∃ d, d = macN Mk0 ([Mt1, Mt2] : List (List UInt8)).flatten := ⟨_, rfl⟩
  obtain ⟨d1, hd1⟩ : ∃ d, d = macN [] ([] : List (List UInt8)).flatten := ⟨_, rfl⟩
  rw [← hd0] at HM0 l0 r0
  rw [← hd1] at HM1 l1 r1
  have HR0 := Lib.hid r0
  have HR1 := Lib.hid r1
  have HL0 := Lib.hid l0
  have HL1 := Lib.hid l1
  have hi0 := Lib.hid (dig_info l0)
  have hi1 := Lib.hid (dig_info l1)
  have ho0 := z32_size l0
  have ho1 := z32_size l1
  have ha0 := byts_all d0
  have ha1 := byts_all d1
  have HRUN := Lib.hid (fun W => z32_run W)
  obtain ⟨z32, hz32⟩ : ∃ z, z = z32A := ⟨_, rfl⟩
  rw [← hz32] at HRUN ho0 ho1
  obtain ⟨s0, hs0⟩ : ∃ s, s = (byts d0).toArray := ⟨_, rfl⟩
  obtain ⟨s1, hs1⟩ : ∃ s, s = (byts d1).toArray := ⟨_, rfl⟩
  rw [← hs0] at HM0 hi0 ho0 ha0
  rw [← hs1] at HM1 hi1 ho1 ha1
  have HS0 := Lib.hid hs0
  have HS1 := Lib.hid hs1
  have HO0 := Lib.hid ho0
  have HO1 := Lib.hid ho1
  clear l0 l1 r0 r1 hd0 hd1 hz32 hs0 hs1 ho0 ho1
  go_enter Try.func7, Try.ntmps7
  go_upto_region 2 with (first
    | (have _q := F1; go_at_call 8; refine (HM1.out _).mono ?_; rintro e w2 ⟨rfl, hf⟩; have F2 := Lib.hid (Fr0.trans F1.out hf); clear hf)
    | (go_at_call 8; refine (HM0.out).mono ?_; rintro e w1 ⟨rfl, hf⟩; have F1 := Lib.hid hf; clear hf)
    | (have _q := BA; refine list_alloc_blk rfl 25 rfl z32 HRUN.out ?_; intro gb w4 hB hF hl; have BB := Lib.hid hB; have BA4 := Lib.hid ((BA.out).fr0 hF); have F4 := Lib.hid (Fr0.trans F3.out hF); have lb := Lib.hid hl; clear hB hF hl)
    | (refine list_alloc_blk rfl 25 rfl z32 HRUN.out ?_; intro ga w3 hB hF hl; have BA := Lib.hid hB; have F3 := Lib.hid (Fr0.trans F2.out hF); have la := Lib.hid (And.intro hl (Nat.le_trans (F2.out).size hl)); clear hB hF hl)
    | (have _q := F5; refine list_store_blk rfl 25 _ _ rfl gb _ rfl rfl 25 _ BB5.out hi1.out HO1.out ha1 ?_; intro w6 hB hF; have BB6 := Lib.hid hB; have BA6 := Lib.hid ((BA5.out).fr1 hF (by have := lb.out; have := (BA.out).lt; omega)); have F6 := Lib.hid (Fr0.new F5.out hF (by have := (F3.out).size; have := lb.out; omega)); clear hB hF)
    | (have _q := F4; refine list_store_blk rfl 25 _ _ rfl ga _ rfl rfl 25 _ BA4.out hi0.out HO0.out ha0 ?_; intro w5 hB hF; have BA5 := Lib.hid hB; have BB5 := Lib.hid ((BB.out).fr1 hF (by have := lb.out; have := (BA.out).lt; omega)); have F5 := Lib.hid (Fr0.new F4.out hF (la.out).2); clear hB hF))
  have c1 : (convert 22 9 (.slice (some ⟨ga, 0, none⟩) 4 32)).run Try.prog w6 = .ok (.string ⟨#[247, 188, 131, 244]⟩) w6 := conv_bytes (d := [247, 188, 131, 244]) w6 _ _ _ Try.underlying22 Try.underlying5 Try.underlying9 (by
    have hb := BA6.out
    rw [HS0.out] at hb
    have h := arr_rd hb (o := 0) (k := 4) (c := 32) (by rw [HL0.out]; decide) (by decide) (by unfold maxLen; decide)
    rw [List.drop_zero, HR0.out] at h
    exact h)
  have c2 : (convert 22 9 (.slice (some ⟨gb, 0, none⟩) 4 32)).run Try.prog w6 = .ok (.string ⟨#[182, 19, 103, 154]⟩) w6 := conv_bytes (d := [182, 19, 103, 154]) w6 _ _ _ Try.underlying22 Try.underlying5 Try.underlying9 (by
    have hb := BB6.out
    rw [HS1.out] at hb
    have h := arr_rd hb (o := 0) (k := 4) (c := 32) (by rw [HL1.out]; decide) (by decide) (by unfold maxLen; decide)
    rw [List.drop_zero, HR1.out] at h
    exact h)
  have HSA := Lib.hid (same_ab w6)
  have HSB := Lib.hid (fun W => same_a W)
  go_wp2_with (first
    | (have _q := F7; go_at_call 10; refine (HSB.out _).mono ?_; rintro e w8 ⟨rfl, hf⟩; have F8 := Lib.hid (Fr0.trans F7.out hf); clear hf)
    | (go_at_call 10; refine (HSA.out).mono ?_; rintro e w7 ⟨rfl, hf⟩; have F7 := Lib.hid (Fr0.trans F6.out hf); clear hf))
  go_ret
  exact ⟨rfl, F8.out⟩
end Go.Proofs.Ytjkcbklgddnbdaa
