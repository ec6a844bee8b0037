/- wake: a hash that New made stays; one that it did not make becomes one without bytes. Conditions stand in the statements. -/
import Derived.Test.YtgcjbbliaelkcaaShaNew
import Derived.Test.YtgcjbbliaelkcaaSteps2
set_option linter.unusedSimpArgs false
namespace Go.Proofs.Ytgcjbbliaelkcaa
open Go.RowKit

def z64 : Array Value := (List.replicate 64 (Value.int .u32 0)).toArray
def hashZ : Array Value := (List.replicate 72 (Value.int .u32 0) ++ [Value.slice none 0 0, Value.int .i64 0]).toArray
theorem ks_ne (w : World) : (eqGuard .eql 121 (.tmp 5) (.tmp 6) (.agg (wcells turnL).toArray) (.agg z64)).run Try.prog w = .ok () w ∧ (binOp .eql 121 (.agg (wcells turnL).toArray) (.agg z64)).run Try.prog w = .ok (.bool false) w := ⟨by kernel_rfl, by kernel_rfl⟩
theorem ks_eq (w : World) : (eqGuard .eql 121 (.tmp 5) (.tmp 6) (.agg z64) (.agg z64)).run Try.prog w = .ok () w ∧ (binOp .eql 121 (.agg z64) (.agg z64)).run Try.prog w = .ok (.bool true) w := ⟨by kernel_rfl, by kernel_rfl⟩
theorem z64_built : Try.prog.built 121 [] = some z64 := by kernel_rfl
set_option maxHeartbeats 1000000 in
set_option maxRecDepth 10000 in
theorem hwake_any {base p : Nat} {w : World} {v : Value} {x : H8} {rest : List UInt8} {n : Int} (h : HashR base w p v x rest n) : Calls Try.prog 61 #[.pointer (some ⟨p, 0, none⟩)] w fun e w' => e = .returned (.tuple #[]) ∧ w = w' := by
  have hr : w.rangeAt p 8 (wcells turnL) := fun j u hu => by
    have hj : j < 64 := by
      rcases Nat.lt_or_ge j (wcells turnL).length with h | h
      · simpa [wcells, turnL_len] using h
      · rw [List.getElem?_eq_none h] at hu; cases hu
    rw [h.blk.cell (8 + j) (hash_k x v n hj), ← hu, wcells, List.getElem?_map, show turnL[j]? = some (turnL.getD j 0) from by simp [List.getD, turnL_len, hj]]
    rfl
  have KN := Lib.hid (ks_ne w)
  have hi : (Try.prog.info? 121).map (·.size) = some (wcells turnL).length := by rw [show (wcells turnL).length = 64 from by simp [wcells, turnL_len]]; kernel_rfl
  obtain ⟨ks, hks⟩ : ∃ ks, ks = wcells turnL := ⟨_, rfl⟩
  rw [← hks] at hr hi KN
  have ZB := z64_built
  obtain ⟨zs, hzs⟩ : ∃ zs, zs = z64 := ⟨_, rfl⟩
  rw [← hzs] at KN ZB
  have HR := Lib.hid hr
  have HI := Lib.hid hi
  have HZ := Lib.hid ZB
  clear h hks hzs hr hi ZB
  go_enter Try.func61, Try.ntmps61
  go_wp2_with (first
    | (refine wpList_load_mid rfl 121 _ rfl p 8 rfl ks _ HR.out Try.underlying121 rfl HI.out ?_)
    | (refine list_build rfl 121 _ rfl zs (by simp; exact HZ.out) ?_)
    | (refine list_binop rfl .eql 121 (.tmp 5) (.tmp 6) _ rfl (.agg ks.toArray) (.agg zs) (.bool false) rfl rfl (KN.out).1 (KN.out).2 ?_))
  go_end0
  exact ⟨rfl, rfl⟩
set_option maxHeartbeats 1000000 in
set_option maxRecDepth 10000 in
theorem hwake_zero {base p : Nat} {w : World} (h : Blk w p hashZ 124) (hb : base ≤ p) (hbw : base ≤ w.heap.size) : Calls Try.prog 61 #[.pointer (some ⟨p, 0, none⟩)] w fun e w' => e = .returned (.tuple #[]) ∧ HashV base w' p (.slice none 0 0) [] ∧ Fr1 p w w' := by
  have hr : w.rangeAt p 8 z64.toList := fun j u hu => by
    have hj : j < 64 := by
      rcases Nat.lt_or_ge j z64.toList.length with h | h
      · simpa [z64] using h
      · rw [List.getElem?_eq_none h] at hu; cases hu
    refine h.cell (8 + j) ?_
    simp only [z64, List.getElem?_replicate] at hu
    rw [if_pos hj] at hu
    simp only [hashZ, List.getElem?_toArray]
    rw [List.getElem?_append_left (by simp; omega), List.getElem?_replicate, if_pos (by omega), ← hu]
  have hlt := h.lt
  have KN := Lib.hid (ks_eq w)
  have hi : (Try.prog.info? 121).map (·.size) = some z64.toList.length := by kernel_rfl
  have ZB := z64_built
  have hza : z64.toList.toArray = z64 := by simp
  have hNW := fun W => hnew_any W
  have hiH : (Try.prog.info? 124).map (·.size) = some (hashC startH (.slice none 0 0) 0).size := by rw [hash_size]; kernel_rfl
  have hoH : hashZ.size = (hashC startH (.slice none 0 0) 0).size := by rw [hash_size]; rfl
  have h1H := hash_one startH (v := .slice none 0 0) rfl 0
  obtain ⟨hc, hhc⟩ : ∃ hc, hc = hashC startH (.slice none 0 0) 0 := ⟨_, rfl⟩
  rw [← hhc] at hiH hoH h1H
  obtain ⟨zs, hzs⟩ : ∃ zs, zs = z64 := ⟨_, rfl⟩
  rw [← hzs] at KN ZB hr hi hza
  obtain ⟨hz, hhz⟩ : ∃ hz, hz = hashZ := ⟨_, rfl⟩
  rw [← hhz] at h hoH
  have HR := Lib.hid hr
  have HI := Lib.hid hi
  have HZ := Lib.hid ZB
  have HZA := Lib.hid hza
  have HN := Lib.hid hNW
  have B := Lib.hid h
  have HIH := Lib.hid hiH
  have HOH := Lib.hid hoH
  have H1H := Lib.hid h1H
  have HHC := Lib.hid hhc
  clear h hzs hr hi ZB hza hNW hiH hoH h1H hhc hhz
  go_enter Try.func61, Try.ntmps61
  go_wp2_with (first
    | (refine wpList_load_mid rfl 121 _ rfl p 8 rfl zs.toList _ HR.out Try.underlying121 rfl HI.out ?_; rw [HZA.out])
    | (refine list_build rfl 121 _ rfl zs (by simp; exact HZ.out) ?_)
    | (refine list_binop rfl .eql 121 (.tmp 5) (.tmp 6) _ rfl (.agg zs) (.agg zs) (.bool true) rfl rfl (KN.out).1 (KN.out).2 ?_)
    | (go_at_call 47; refine (HN.out _).mono ?_; rintro e w1 ⟨p1, rfl, hv, hf⟩; have V1 := Lib.hid (show Blk w1 p1 hc 124 by rw [HHC.out]; exact hv.blk); have F1 := Lib.hid hf; have L1 := Lib.hid (show p ≠ p1 from fun e => by have := hv.lo; omega); clear hv hf)
    | (refine list_load_blk rfl 124 _ rfl p1 rfl 124 hc V1.out _ Try.underlying124 rfl HIH.out ?_)
    | (refine list_store_blk rfl 124 _ _ rfl p hc rfl rfl 124 hz ((B.out).fr0 F1.out) HIH.out HOH.out H1H.out ?_; intro w2 hB hF; have B2 := Lib.hid hB; have F2 := Lib.hid (Fr.trans (Fr1.of0 F1.out) hF); clear hB hF))
  go_end0
  refine ⟨rfl, ⟨?_, SlO.nil _ _, hb⟩, F2.out⟩
  have hB := B2.out
  rw [HHC.out] at hB
  exact hB
end Go.Proofs.Ytgcjbbliaelkcaa
