/- Copy, Len. Conditions stand in the statements. -/
import Derived.Test.YtgcjbbliaelkcaaShaWrite
set_option linter.unusedSimpArgs false
namespace Go.Proofs.Ytgcjbbliaelkcaa
open Go.RowKit

theorem hRest_lt (all : List UInt8) : (hRest all).length < 64 := by unfold hRest; rw [List.length_drop]; omega
set_option maxHeartbeats 1000000 in
set_option maxRecDepth 10000 in
theorem hcopy_gen {S : Nat → Prop} {base p : Nat} {w : World} {v : Value} {all : List UInt8} (hS : ∀ k, S k → k < w.heap.size) (HW : Calls Try.prog 61 #[.pointer (some ⟨p, 0, none⟩)] w fun e w1 => e = .returned (.tuple #[]) ∧ HashV base w1 p v all ∧ Fr S w w1) :
    Calls Try.prog 63 #[.pointer (some ⟨p, 0, none⟩)] w fun e w' => ∃ p' v', e = .returned (.pointer (some ⟨p', 0, none⟩)) ∧ HashV w.heap.size w' p' v' all ∧ HashV base w' p v all ∧ Fr S w w' := by
  have HWW := Lib.hid HW
  have HSS := Lib.hid hS
  have hiH : ∀ x v n, (Try.prog.info? 124).map (·.size) = some (hashC x v n).size := fun x v n => by rw [hash_size]; kernel_rfl
  have HIH := Lib.hid hiH
  have HOH := Lib.hid (fun x v n => show hashZ.size = (hashC x v n).size from by rw [hash_size]; rfl)
  have HLR := Lib.hid (show ([] : List UInt8).length + (hRest all).length ≤ 1000000 by have := hRest_lt all; simp; omega)
  clear HW hiH hS
  go_enter Try.func63, Try.ntmps63
  go_upto_region 5 with (first
    | (go_at_call 61; refine (HWW.out).mono ?_; rintro e w1 ⟨rfl, h1, hf⟩; have H1 := Lib.hid h1; have F1 := Lib.hid hf; have z1 := hf.size; obtain ⟨A0, c0, rfl, -, -, -⟩ := h1.sl.form; clear h1 hf)
    | (refine list_load_blk rfl 124 _ rfl p rfl 124 _ (H1.out).blk _ Try.underlying124 rfl (HIH.out _ _ _) ?_)
    | (refine list_alloc_blk rfl 124 rfl hashZ (fun _ => by kernel_rfl) ?_; intro p' w2 hB hF hl; have B2 := Lib.hid hB; have F2 := Lib.hid hF; have L2 := Lib.hid hl; clear hB hF hl)
    | (refine list_store_blk rfl 124 _ _ rfl p' _ rfl rfl 124 hashZ B2.out (HIH.out _ _ _) (HOH.out _ _ _) (hash_one _ rfl _) ?_; intro w3 hB hF; have B3 := Lib.hid hB; have F3 := Lib.hid hF; clear hB hF))
  simp only [Act.put]
  have hlt := (H1.out).blk.lt
  have hpl0 := L2.out
  have H3 := Lib.hid (HashV.fr (HashV.fr0 H1.out F2.out) F3.out (fun k hk => by
    have := (HashR.own_lo H1.out k hk).2
    omega))
  have FW3 := Lib.hid (show Fr S w w3 from Fr.then (Fr.then0 F1.out F2.out) F3.out (fun i hi hl => by subst hi; omega))
  have z2 := (F2.out).size
  have z3 := (F3.out).size
  have hpl : w.heap.size ≤ p' := by omega
  have hpp : p ≠ p' := by omega
  have d72 := (H3.out).blk.cell 72 (hash_72 _ _ _)
  have RL := Lib.hid (hRest_lt all)
  go_wp2_with (refine list_append_sl (base := w.heap.size) rfl _ _ rfl (SlO.nil _ _) rfl (by omega) (H3.out).sl.rd rfl HLR.out ?_; intro A1 c1 w4 hS4 hF4 hK4; have S4 := Lib.hid hS4; have F4 := Lib.hid (show Fr0 w3 w4 from Fr.mono hF4 (fun k hk => by cases hk)); have B4 := Lib.hid ((B3.out).fr0 F4.out); have e72 := (B4.out).cell 72 (hash_72 _ _ _); have f72 := (B4.out).free 72; clear hS4 hF4 hK4)
  go_ret
  have F5 := (Fr1.refl p' w4).set 72 (.slice A1 (hRest all).length c1)
  refine ⟨p', .slice A1 (hRest all).length c1, rfl, ⟨?_, ?_, hpl⟩, ?_, ?_⟩
  · have hb := (B4.out).set 72 (.slice A1 (hRest all).length c1)
    rw [hash_set72] at hb
    exact hb
  · have hs := S4.out
    simp only [List.nil_append] at hs
    exact hs.fr1 F5 B4.out (by decide)
  · refine HashV.fr (HashV.fr0 H3.out F4.out) F5 (fun k hk => ?_)
    have := (HashR.own_lo H1.out k hk).2
    omega
  · exact Fr.then (Fr.trans FW3.out (Fr.mono F4.out (fun _ h => h.elim))) F5 (fun i hi hl => by subst hi; omega)
theorem hcopy_any {base p : Nat} {w : World} {v : Value} {all : List UInt8} (h : HashV base w p v all) :
    Calls Try.prog 63 #[.pointer (some ⟨p, 0, none⟩)] w fun e w' => ∃ p' v', e = .returned (.pointer (some ⟨p', 0, none⟩)) ∧ HashV w.heap.size w' p' v' all ∧ Fr0 w w' := by
  refine (hcopy_gen (S := fun _ => False) (base := base) (v := v) (all := all) (fun _ h => h.elim) ((hwake_any h).mono ?_)).mono ?_
  · rintro e w1 ⟨rfl, rfl⟩; exact ⟨rfl, h, Fr0.refl _⟩
  · rintro e w' ⟨p', v', rfl, h1, _, h2⟩; exact ⟨p', v', rfl, h1, h2⟩
theorem hcopy_zero {base p : Nat} {w : World} (h : Blk w p hashZ 124) (hb : base ≤ p) :
    Calls Try.prog 63 #[.pointer (some ⟨p, 0, none⟩)] w fun e w' => ∃ p' v', e = .returned (.pointer (some ⟨p', 0, none⟩)) ∧ HashV w.heap.size w' p' v' [] ∧ HashV base w' p (.slice none 0 0) [] ∧ Fr1 p w w' := by
  refine hcopy_gen (S := fun k => k = p) (fun k hk => by rw [hk]; exact h.lt) (hwake_zero h hb (Nat.le_trans hb (Nat.le_of_lt h.lt)))
theorem hcopy_nil (w : World) : Calls Try.prog 63 #[.pointer none] w fun e w' => ∃ p : Nat, e = .returned (.pointer (some ⟨p, 0, none⟩)) ∧ HashV w.heap.size w' p (.slice none 0 0) [] ∧ Fr0 w w' := by
  have HN := Lib.hid (hnew_any w)
  go_enter Try.func63, Try.ntmps63
  go_wp2_with (go_at_call 47; refine (HN.out).mono ?_; rintro e w1 ⟨p, rfl, hv, hf⟩; have V := Lib.hid (And.intro hv hf); clear hv hf)
  go_ret
  exact ⟨p, rfl, (V.out).1, (V.out).2⟩
end Go.Proofs.Ytgcjbbliaelkcaa
