/- mac.Same: whether both have the same bytes. Conditions stand in the statements. -/
import Derived.Test.YtjkcbklgddnbdaaRows
import Derived.Test.YtjkcbklgddnbdaaQuiet
import Derived.Test.YtjkcbklgddnbdaaBytes
import Derived.WalkSpells
import Derived.WalkKit
import Derived.Handy
import Derived.Lib.Hide
import Derived.IntWalk
set_option linter.unusedSimpArgs false
namespace Go.Proofs.Ytjkcbklgddnbdaa
open Go.RowKit

/-- What is left of bytes that part. -/
def foldX (a b : List UInt8) : Nat → UInt8
  | 0 => 0
  | n + 1 => foldX a b n ||| (a.getD n 0 ^^^ b.getD n 0)
theorem or_zero8 (x y : UInt8) : x ||| y = 0 ↔ x = 0 ∧ y = 0 := by
  constructor
  · intro h
    have h2 : (x ||| y).toNat = 0 := by rw [h]; rfl
    rw [UInt8.toNat_or] at h2
    have := Nat.or_eq_zero_iff.1 h2
    exact ⟨UInt8.toNat_inj.1 this.1, UInt8.toNat_inj.1 this.2⟩
  · rintro ⟨rfl, rfl⟩; rfl
theorem xor_zero8 (x y : UInt8) : x ^^^ y = 0 ↔ x = y := by
  constructor
  · intro h
    have h2 : (x ^^^ y) ^^^ y = 0 ^^^ y := by rw [h]
    rwa [UInt8.xor_assoc, UInt8.xor_self, UInt8.xor_zero, UInt8.zero_xor] at h2
  · rintro rfl; simp
theorem foldX_zero (a b : List UInt8) : ∀ n, foldX a b n = 0 ↔ ∀ i, i < n → a.getD i 0 = b.getD i 0
  | 0 => ⟨fun _ i hi => absurd hi (by omega), fun _ => rfl⟩
  | n + 1 => by
    rw [foldX, or_zero8, foldX_zero a b n, xor_zero8]
    constructor
    · rintro ⟨h1, h2⟩ i hi
      rcases (by omega : i < n ∨ i = n) with h | rfl
      · exact h1 i h
      · exact h2
    · intro h
      exact ⟨fun i hi => h i (by omega), h n (by omega)⟩
theorem fold_same {a b : List UInt8} (h : a.length = b.length) : (foldX a b a.length = 0) ↔ a = b := by
  rw [foldX_zero]
  constructor
  · intro hh
    apply List.ext_getElem h
    intro i h1 h2
    have := hh i h1
    simpa [List.getD, h1, h2] using this
  · rintro rfl i _; rfl
/-- Are both the same? -/
def sameB (a b : List UInt8) : Bool := decide (a = b)
set_option maxHeartbeats 1000000 in
set_option maxRecDepth 10000 in
theorem msame_any {va vb : Value} {a b : List UInt8} {w : World} (ha : RdB w va a) (hb : RdB w vb b) : Calls Try.prog 10 #[va, vb] w fun e w' => e = .returned (.bool (sameB a b)) ∧ Fr0 w w' := by
  obtain ⟨Aa, ca, rfl, ha1, ha2, -⟩ := ha.form
  obtain ⟨Ab, cb, rfl, hb1, hb2, -⟩ := hb.form
  unfold maxLen at ha2 hb2
  have HA := Lib.hid (show RdB w (.slice Aa a.length ca) a from ha)
  have HB := Lib.hid (show RdB w (.slice Ab b.length cb) b from hb)
  by_cases hl : a.length = b.length
  · have HS := Lib.hid (fold_same hl)
    have HSB := Lib.hid (show sameB a b = decide (a = b) from rfl)
    obtain ⟨n, hn⟩ : ∃ n, n = a.length := ⟨_, rfl⟩
    rw [← hl, ← hn] at HB hb1
    rw [← hn] at HA HS ha1
    rw [← hl, ← hn]
    have HN := Lib.hid hn
    have HLB := Lib.hid (hn.trans hl)
    obtain ⟨sb, hsb⟩ : ∃ s, s = sameB a b := ⟨_, rfl⟩
    rw [← hsb] at HSB ⊢
    clear ha hb hl hn hsb
    go_enter Try.func10, Try.ntmps10
    go_wp2_with fail
    go_loopw [5, 14] (fun v5 v14 wr => ∃ k : Nat, k ≤ n ∧ v14 = .int .i64 k ∧ v5 = .int .u8 ((foldX a b k).toNat : Int) ∧ Fr0 w wr) (fun _ v14 _ => n - (intOf v14).toNat)
    case atStart => exact ⟨0, by omega, rfl, rfl, Fr0.refl w⟩
    case round =>
      obtain ⟨k, hk, rfl, rfl, hF⟩ := hrel
      by_cases hlt : k < n
      · have hka : k < a.length := by rw [← HN.out]; exact hlt
        have hkb : k < b.length := by rw [← HLB.out]; exact hlt
        obtain ⟨ga, oa, ca', hva, hca, _, da⟩ := (show RdB w (.slice Aa a.length ca) a from by rw [← HN.out]; exact HA.out).cell hka
        obtain ⟨gb, ob, cb', hvb, hcb, _, db⟩ := (show RdB w (.slice Ab b.length cb) b from by rw [← HLB.out]; exact HB.out).cell hkb
        injection hva with hA1 _ hA2
        injection hvb with hB1 _ hB2
        subst hA1 hB1
        have ea := hF.cell da
        have eb := hF.cell db
        have i0 : (0 : Int) ≤ (k : Int) := by omega
        have i1 : (k : Int) < (n : Int) := by omega
        have HC := Lib.hid (fun (W : World) (h : Fr0 w W) => show W.cell? ⟨ga, oa + k, none⟩ = some (.int .u8 ((a[k]).toNat : Int)) ∧ W.cell? ⟨gb, ob + k, none⟩ = some (.int .u8 ((b[k]).toNat : Int)) from ⟨h.cell da, h.cell db⟩)
        have hx : bits .xor .u8 ((a[k]).toNat : Int) ((b[k]).toNat : Int) = ((a[k] ^^^ b[k]).toNat : Int) := by
          rw [UInt8.toNat_xor]; exact u8_xor_nat _ _ (a[k]).toNat_lt (b[k]).toNat_lt
        have ho : bits .or .u8 ((foldX a b k).toNat : Int) ((a[k] ^^^ b[k]).toNat : Int) = ((foldX a b (k + 1)).toNat : Int) := by
          have e : foldX a b (k + 1) = foldX a b k ||| (a[k] ^^^ b[k]) := by rw [foldX]; simp [List.getD, hka, hkb]
          rw [e, UInt8.toNat_or]; exact u8_or_nat _ _ (foldX a b k).toNat_lt (a[k] ^^^ b[k]).toNat_lt
        obtain ⟨f1, hf1⟩ : ∃ f, f = foldX a b (k + 1) := ⟨_, rfl⟩
        obtain ⟨f0, hf0⟩ : ∃ f, f = foldX a b k := ⟨_, rfl⟩
        obtain ⟨xa, hxa⟩ : ∃ f, f = a[k] := ⟨_, rfl⟩
        obtain ⟨xb, hxb⟩ : ∃ f, f = b[k] := ⟨_, rfl⟩
        rw [← hf1, ← hf0, ← hxa, ← hxb] at ho
        rw [← hxa, ← hxb] at hx HC
        rw [UInt8.toNat_xor] at ho
        rw [← hf0]
        have HF1 := Lib.hid hf1
        have HF := Lib.hid hF
        have HX := Lib.hid hx
        have HO := Lib.hid ho
        clear hA2 hB2 hF da db ea eb hx ho hf1 hf0 hxa hxb hka hkb hca hcb
        go_wp2_with fail
        have hx := HX.out
        have ho := HO.out
        refine wp_region_class (fun W => Fr0 wr W) (by kernel_rfl) (by kernel_rfl) ((Fr0.refl _).drew) ?_
        iterate 12 (refine q_val rfl (fun W hW => by have hc := (HC.out) W (Fr0.trans HF.out hW); go_simp; try rfl) ?_; simp only [Act.put, List.setIfInBounds_toArray, List.set_cons_zero, List.set_cons_succ])
        refine q_nil ?_
        intro w' hC
        clear hx ho
        go_wp2_with fail
        go_roundw
        case measure => simp [intOf]; omega
        case rel => exact ⟨k + 1, by omega, by go_num, by rw [HF1.out], Fr0.trans HF.out hC⟩
      · obtain rfl : k = n := by omega
        have HV := Lib.hid (show ((foldX a b k).toNat = 0) ↔ a = b from by
          rw [← HS.out]
          exact ⟨fun h => UInt8.toNat_inj.1 h, fun h => by rw [h]; rfl⟩)
        obtain ⟨fz, hfz⟩ : ∃ f, f = (foldX a b k).toNat := ⟨_, rfl⟩
        rw [← hfz] at HV ⊢
        by_cases h0 : fz = 0
        · subst h0
          have HB1 := Lib.hid (HSB.out.trans (decide_eq_true ((HV.out).1 rfl)))
          clear hfz
          go_wp2_with fail
          go_ret
          exact ⟨by rw [HB1.out]; rfl, hF⟩
        · have HB1 := Lib.hid (HSB.out.trans (decide_eq_false (fun h => h0 ((HV.out).2 h))))
          have q1 : ((fz : Int) == 0) = false := by simp; omega
          have q2 : (fz == 0) = false := by simpa using h0
          clear hfz h0
          go_wp2_with fail
          go_ret
          exact ⟨by rw [HB1.out]; rfl, hF⟩
  · have hne : sameB a b = false := decide_eq_false (fun h => hl (by rw [h]))
    obtain ⟨na, hna⟩ : ∃ n, n = a.length := ⟨_, rfl⟩
    obtain ⟨nb, hnb⟩ : ∃ n, n = b.length := ⟨_, rfl⟩
    rw [← hna, ← hnb] at hl ⊢
    have q1 : ((na : Int) != (nb : Int)) = true := by simp; omega
    have q2 : (na != nb) = true := by simpa using hl
    have HNE := Lib.hid hne
    rw [hne]
    clear ha hb hna hnb hl hne
    go_enter Try.func10, Try.ntmps10
    go_wp2_with fail
    go_ret
    exact ⟨rfl, Fr0.refl w⟩
end Go.Proofs.Ytjkcbklgddnbdaa
