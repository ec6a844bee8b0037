/- Sum of a hash that New made, of one that it did not make, of none; Sum of pieces. Conditions stand in the statements. -/
import Derived.Test.YtgcjbbliaelkcaaShaSum
set_option linter.unusedSimpArgs false
namespace Go.Proofs.Ytgcjbbliaelkcaa
open Go.RowKit

theorem fr0_of_since {w w1 w2 : World} (h : Fr0 w w1) (k : Fr (since0 w.heap.size) w1 w2) : Fr0 w w2 := Fr.then h k (fun i hi hl => by unfold since0 at hi; omega)
theorem hsum_any {base p : Nat} {w : World} {v : Value} {all : List UInt8} (h : HashV base w p v all) (hl : all.length ≤ 900000) :
    Calls Try.prog 50 #[.pointer (some ⟨p, 0, none⟩)] w fun e w' => e = .returned (.agg (byts (shaN all)).toArray) ∧ Fr0 w w' := by
  refine (hsum_gen (R := fun w1 => Fr0 w w1) hl (fun W hf => (hcopy_any (h.fr0 hf)).mono ?_)).mono ?_
  · rintro e w1 ⟨p', v', rfl, h1, h2⟩
    exact ⟨p', v', rfl, h1, h2.size, fun b vs t hb _ => hb.fr0 h2, Fr0.trans hf h2⟩
  · rintro e w' ⟨rfl, w1, h1, h2⟩
    exact ⟨rfl, fr0_of_since h1 h2⟩
theorem hsum_nil (w : World) : Calls Try.prog 50 #[.pointer none] w fun e w' => e = .returned (.agg (byts (shaN [])).toArray) ∧ Fr0 w w' := by
  refine (hsum_gen (R := fun w1 => Fr0 w w1) (all := []) (by simp) (fun W hf => (hcopy_nil W).mono ?_)).mono ?_
  · rintro e w1 ⟨p', rfl, h1, h2⟩
    exact ⟨p', _, rfl, h1, h2.size, fun b vs t hb _ => hb.fr0 h2, Fr0.trans hf h2⟩
  · rintro e w' ⟨rfl, w1, h1, h2⟩
    exact ⟨rfl, fr0_of_since h1 h2⟩
theorem hsum_zero {base p : Nat} {w : World} (h : Blk w p hashZ 124) (hb : base ≤ p) : Calls Try.prog 50 #[.pointer (some ⟨p, 0, none⟩)] w fun e w' => e = .returned (.agg (byts (shaN [])).toArray) ∧ HashV base w' p (.slice none 0 0) [] ∧ Fr1 p w w' := by
  refine (hsum_gen (R := fun w1 => HashV base w1 p (.slice none 0 0) [] ∧ Fr1 p w w1) (all := []) (by simp) (fun W hf => (hcopy_zero (h.fr0 hf) hb).mono ?_)).mono ?_
  · rintro e w1 ⟨p', v', rfl, h1, h2, h3⟩
    exact ⟨p', v', rfl, h1, h3.size, fun b vs t hb2 hw => hb2.fr1 h3 (by have := h.lt; omega), h2, Fr1.trans (Fr1.of0 hf) h3⟩
  · rintro e w' ⟨rfl, w1, ⟨h1, h2⟩, h3⟩
    refine ⟨rfl, HashV.fr h1 h3 (fun k hk hs => ?_), Fr.then h2 h3 (fun i hi hl => by unfold since0 at hi; omega)⟩
    rcases hk with rfl | hk
    · have := h.lt; unfold since0 at hs; omega
    · cases hk
set_option maxHeartbeats 4000000 in
set_option maxRecDepth 10000 in
theorem sum_any {w : World} {lv : Value} {ds : List (List UInt8)} {vs : List Value} (hr : Rd w 1 lv ds.length vs) (hd : ∀ i (h : i < ds.length), ∃ v, vs[i]? = some v ∧ RdB w v ds[i]) (hl : ds.flatten.length ≤ 900000) :
    Calls Try.prog 51 #[lv] w fun e w' => e = .returned (.agg (byts (shaN ds.flatten)).toArray) ∧ Fr0 w w' := by
  have l63 := hr.le63
  obtain ⟨Av, cv, rfl, -, -, -⟩ := hr.form
  have HR := Lib.hid hr
  have HD := Lib.hid hd
  have HN := Lib.hid (fun W => hnew_any W)
  obtain ⟨z32, hz32⟩ : ∃ z, z = (byts (List.replicate 32 0)).toArray := ⟨_, rfl⟩
  have hrun : ∀ W : World, (Instr.alloc 23 true (.tuple #[])).run Try.prog W = .ok (.pointer (some ⟨W.heap.size, 0, none⟩)) (W.alloc (.cells z32 23)) := by rw [hz32]; exact fun _ => by kernel_rfl
  have HRUN := Lib.hid hrun
  have HZ := Lib.hid hz32
  obtain ⟨nd, hnd⟩ : ∃ n, n = ds.length := ⟨_, rfl⟩
  rw [← hnd] at l63 ⊢
  have HND := Lib.hid hnd
  have HL := Lib.hid hl
  clear hr hd hrun hz32 hnd hl
  go_enter Try.func51, Try.ntmps51
  go_wp2_with (first
    | (refine list_alloc_blk rfl 23 rfl z32 HRUN.out ?_; intro g2 w0 hB hF hl2; have B2 := Lib.hid hB; have F0 := Lib.hid hF; have L2 := Lib.hid hl2; clear hB hF hl2)
    | (go_at_call 47; refine (HN.out _).mono ?_; rintro e w1 ⟨p, rfl, hv, hf⟩; have H1 := Lib.hid hv; have F1 := Lib.hid (Fr0.trans F0.out hf); have K1 := Lib.hid ((B2.out).fr0 hf); have S1 := Lib.hid hf.size; clear hv hf))
  have hg2 := (B2.out).lt
  have hl2 := L2.out
  have hs1 := S1.out
  obtain ⟨b0, hb0⟩ : ∃ b, b = w0.heap.size := ⟨_, rfl⟩
  rw [← hb0] at H1 hg2 hs1
  have hlo := (H1.out).lo
  have hwb : w.heap.size ≤ b0 := by omega
  clear hb0
  go_loopw [9] (fun v9 wr => ∃ (k : Nat) (v : Value), k ≤ nd ∧ v9 = .int .i64 k ∧ HashV b0 wr p v (ds.take k).flatten ∧ Blk wr g2 z32 23 ∧ Fr0 w wr ∧ b0 ≤ wr.heap.size) (fun v9 _ => nd - (intOf v9).toNat)
  case atStart => exact ⟨0, _, Nat.zero_le _, rfl, H1.out, K1.out, F1.out, hs1⟩
  case round =>
    obtain ⟨k, v, hk, rfl, hH, hK, hF, hS⟩ := hrel
    have HH := Lib.hid hH
    have HK := Lib.hid hK
    have HF := Lib.hid hF
    have HS := Lib.hid hS
    by_cases hlt : k < nd
    · have hkd : k < ds.length := by rw [← HND.out]; exact hlt
      obtain ⟨ev, he, hrb⟩ := (HD.out) k hkd
      obtain ⟨g, off, hA, hkc, hgl, hcells⟩ := ((HR.out).fr0 hF).cellA hkd
      subst hA
      have dk := hcells 0 ev (by simpa using he)
      simp only [Nat.mul_one, Nat.add_zero] at dk
      obtain ⟨Ae, ce, rfl, -, -, -⟩ := hrb.form
      have i0 : (0 : Int) ≤ (k : Int) := by omega
      have i1 : (k : Int) < (nd : Int) := by omega
      have hfl : (ds.take (k + 1)).flatten = (ds.take k).flatten ++ ds[k] := by rw [List.take_succ_eq_append_getElem hkd, List.flatten_append]; simp
      obtain ⟨de, hde⟩ : ∃ d, d = ds[k] := ⟨_, rfl⟩
      rw [← hde] at hfl dk hrb he
      clear hde
      have hle : (ds.take k).flatten.length + de.length ≤ 1000000 := by
        have h1 : (ds.take (k + 1)).flatten.length ≤ ds.flatten.length := by
          have h2 := congrArg (fun l => l.flatten.length) (List.take_append_drop (k + 1) ds)
          simp only [List.flatten_append, List.length_append] at h2
          omega
        rw [hfl, List.length_append] at h1
        have := HL.out
        omega
      have HWr := Lib.hid (hwrite_any hH (hrb.fr0 hF) (fun h0 hp => by have h1 := Rd.blk_lt hrb h0 _ hp; have h2 := hH.lo; omega) hS hle)
      have HFL := Lib.hid hfl
      obtain ⟨el, hel⟩ : ∃ n, n = de.length := ⟨_, rfl⟩
      rw [← hel] at dk HWr
      clear he hrb hkc hgl hcells hkd hH hK hF hS hfl hle hel
      go_wp2_with (go_at_call 48; refine (HWr.out).mono ?_; rintro e w3 ⟨rfl, v3, hv, hf, -⟩; have H3 := Lib.hid hv; have F3 := Lib.hid (show Fr0 w w3 from Fr.then HF.out hf (fun q hq hl => by have := (HashR.own_lo HH.out q hq).1; omega)); have K3 := Lib.hid ((HK.out).fr hf (fun hq => by have := (HashR.own_lo HH.out _ hq).1; omega)); have S3 := Lib.hid (Nat.le_trans HS.out hf.size); clear hv hf)
      go_roundw
      case measure => simp [intOf]; omega
      case rel => exact ⟨k + 1, v3, by omega, by go_num, by rw [HFL.out]; exact H3.out, K3.out, F3.out, S3.out⟩
    · obtain rfl : k = nd := by omega
      have e : ds.take k = ds := List.take_of_length_le (by rw [← HND.out]; omega)
      rw [e] at hH
      have HSu := Lib.hid (hsum_any hH HL.out)
      have h32 : (shaN ds.flatten).length = 32 := outB_len _
      have hz8 : z32.size = (byts (shaN ds.flatten)).toArray.size := by rw [HZ.out, byts_size, byts_size, h32]; rfl
      obtain ⟨sh, hsh⟩ : ∃ sh, sh = shaN ds.flatten := ⟨_, rfl⟩
      rw [← hsh] at HSu h32 hz8
      have HSH := Lib.hid hsh
      have hi28 : (Try.prog.info? 23).map (·.size) = some (byts sh).toArray.size := by rw [byts_size, h32]; kernel_rfl
      have h1 := byts_all sh
      obtain ⟨cs, hcs⟩ : ∃ cs, cs = (byts sh).toArray := ⟨_, rfl⟩
      rw [← hcs] at HSu hi28 hz8 h1
      have HCS := Lib.hid hcs
      clear e hH hK hF hS hlt hk hsh hcs h32
      go_wp2_with (first
        | (refine list_store_blk rfl 23 _ _ rfl g2 cs rfl rfl 23 _ K5.out hi28 hz8 h1 ?_; intro W9 hB hF)
        | (go_at_call 50; refine (HSu.out).mono ?_; rintro e w5 ⟨rfl, hf⟩; have K5 := Lib.hid ((HK.out).fr0 hf); have F5 := Lib.hid (Fr0.trans HF.out hf); clear hf))
      refine bodyPost_ret (v := .agg cs) (results_cell_row rfl _ _ g2 23 cs (0, 0) _ rfl hB Try.underlying23 rfl hi28) rfl ⟨by rw [HCS.out, HSH.out], Fr0.new F5.out hF hl2⟩
end Go.Proofs.Ytgcjbbliaelkcaa
