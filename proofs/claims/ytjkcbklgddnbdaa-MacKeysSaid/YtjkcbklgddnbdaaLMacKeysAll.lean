/- MacKeys: a member's key is the document's; numbers that may not be are refused: the law returns true for any master and numbers. No condition. -/
import Derived.Test.YtjkcbklgddnbdaaRows
import Derived.Test.YtjkcbklgddnbdaaQuiet
import Derived.Test.YtjkcbklgddnbdaaBytes
import Derived.WalkSpells
import Derived.WalkKit
import Derived.Handy
import Derived.Lib.Hide
import Derived.IntWalk
import Derived.Test.YtjkcbklgddnbdaaMacOf
import Derived.Lib.SlBytesConst
import Derived.Test.YtjkcbklgddnbdaaMacLaw
import Derived.Test.YtjkcbklgddnbdaaArr
import Derived.Laws.ResultCell
import Derived.Laws.Rows
import Derived.Test.YtjkcbklgddnbdaaStepSl
import Derived.Test.YtjkcbklgddnbdaaApp
import Derived.Test.YtjkcbklgddnbdaaOwn
import Derived.BigQuiet
import Derived.Deep.QuietTactic
import Derived.Lib.AppendZeros
import Derived.KernelRfl
import Derived.Test.YtjkcbklgddnbdaaShaRSum
import Derived.Test.YtjkcbklgddnbdaaShaEq
import Derived.Test.YtjkcbklgddnbdaaSlPut
import Derived.Test.YtjkcbklgddnbdaaRd64
import Derived.Test.YtjkcbklgddnbdaaArgs
import Derived.Test.YtjkcbklgddnbdaaWLits
set_option linter.unusedSimpArgs false
namespace Go.Proofs.Ytjkcbklgddnbdaa
open Go.RowKit

/-- What is left of bytes that part. -/
def foldX (a b : List UInt8) : Nat → UInt8
  | 0 => 0
  | n + 1 => foldX a b n ||| (a.getD n 0 ^^^ b.getD n 0)
theorem or_zero8 (x y : UInt8) : x ||| y = 0 ↔ x = 0 ∧ y = 0 := by
  constructor
  · intro h
    have h2 : (x ||| y).toNat = 0 := by rw [h]; rfl
    rw [UInt8.toNat_or] at h2
    have := Nat.or_eq_zero_iff.1 h2
    exact ⟨UInt8.toNat_inj.1 this.1, UInt8.toNat_inj.1 this.2⟩
  · rintro ⟨rfl, rfl⟩; rfl
theorem xor_zero8 (x y : UInt8) : x ^^^ y = 0 ↔ x = y := by
  constructor
  · intro h
    have h2 : (x ^^^ y) ^^^ y = 0 ^^^ y := by rw [h]
    rwa [UInt8.xor_assoc, UInt8.xor_self, UInt8.xor_zero, UInt8.zero_xor] at h2
  · rintro rfl; simp
theorem foldX_zero (a b : List UInt8) : ∀ n, foldX a b n = 0 ↔ ∀ i, i < n → a.getD i 0 = b.getD i 0
  | 0 => ⟨fun _ i hi => absurd hi (by omega), fun _ => rfl⟩
  | n + 1 => by
    rw [foldX, or_zero8, foldX_zero a b n, xor_zero8]
    constructor
    · rintro ⟨h1, h2⟩ i hi
      rcases (by omega : i < n ∨ i = n) with h | rfl
      · exact h1 i h
      · exact h2
    · intro h
      exact ⟨fun i hi => h i (by omega), h n (by omega)⟩
theorem fold_same {a b : List UInt8} (h : a.length = b.length) : (foldX a b a.length = 0) ↔ a = b := by
  rw [foldX_zero]
  constructor
  · intro hh
    apply List.ext_getElem h
    intro i h1 h2
    have := hh i h1
    simpa [List.getD, h1, h2] using this
  · rintro rfl i _; rfl
/-- Are both the same? -/
def sameB (a b : List UInt8) : Bool := decide (a = b)
set_option maxHeartbeats 1000000 in
set_option maxRecDepth 10000 in
theorem msame_any {va vb : Value} {a b : List UInt8} {w : World} (ha : RdB w va a) (hb : RdB w vb b) : Calls Try.prog 10 #[va, vb] w fun e w' => e = .returned (.bool (sameB a b)) ∧ Fr0 w w' := by
  obtain ⟨Aa, ca, rfl, ha1, ha2, -⟩ := ha.form
  obtain ⟨Ab, cb, rfl, hb1, hb2, -⟩ := hb.form
  unfold maxLen at ha2 hb2
  have HA := Lib.hid (show RdB w (.slice Aa a.length ca) a from ha)
  have HB := Lib.hid (show RdB w (.slice Ab b.length cb) b from hb)
  by_cases hl : a.length = b.length
  · have HS := Lib.hid (fold_same hl)
    have HSB := Lib.hid (show sameB a b = decide (a = b) from rfl)
    obtain ⟨n, hn⟩ : ∃ n, n = a.length := ⟨_, rfl⟩
    rw [← hl, ← hn] at HB hb1
    rw [← hn] at HA HS ha1
    rw [← hl, ← hn]
    have HN := Lib.hid hn
    have HLB := Lib.hid (hn.trans hl)
    obtain ⟨sb, hsb⟩ : ∃ s, s = sameB a b := ⟨_, rfl⟩
    rw [← hsb] at HSB ⊢
    clear ha hb hl hn hsb
    go_enter Try.func10, Try.ntmps10
    go_wp2_with fail
    go_loopw [5, 14] (fun v5 v14 wr => ∃ k : Nat, k ≤ n ∧ v14 = .int .i64 k ∧ v5 = .int .u8 ((foldX a b k).toNat : Int) ∧ Fr0 w wr) (fun _ v14 _ => n - (intOf v14).toNat)
    case atStart => exact ⟨0, by omega, rfl, rfl, Fr0.refl w⟩
    case round =>
      obtain ⟨k, hk, rfl, rfl, hF⟩ := hrel
      by_cases hlt : k < n
      · have hka : k < a.length := by rw [← HN.out]; exact hlt
        have hkb : k < b.length := by rw [← HLB.out]; exact hlt
        obtain ⟨ga, oa, ca', hva, hca, _, da⟩ := (show RdB w (.slice Aa a.length ca) a from by rw [← HN.out]; exact HA.out).cell hka
        obtain ⟨gb, ob, cb', hvb, hcb, _, db⟩ := (show RdB w (.slice Ab b.length cb) b from by rw [← HLB.out]; exact HB.out).cell hkb
        injection hva with hA1 _ hA2
        injection hvb with hB1 _ hB2
        subst hA1 hB1
        have ea := hF.cell da
        have eb := hF.cell db
        have i0 : (0 : Int) ≤ (k : Int) := by omega
        have i1 : (k : Int) < (n : Int) := by omega
        have HC := Lib.hid (fun (W : World) (h : Fr0 w W) => show W.cell? ⟨ga, oa + k, none⟩ = some (.int .u8 ((a[k]).toNat : Int)) ∧ W.cell? ⟨gb, ob + k, none⟩ = some (.int .u8 ((b[k]).toNat : Int)) from ⟨h.cell da, h.cell db⟩)
        have hx : bits .xor .u8 ((a[k]).toNat : Int) ((b[k]).toNat : Int) = ((a[k] ^^^ b[k]).toNat : Int) := by
          rw [UInt8.toNat_xor]; exact u8_xor_nat _ _ (a[k]).toNat_lt (b[k]).toNat_lt
        have ho : bits .or .u8 ((foldX a b k).toNat : Int) ((a[k] ^^^ b[k]).toNat : Int) = ((foldX a b (k + 1)).toNat : Int) := by
          have e : foldX a b (k + 1) = foldX a b k ||| (a[k] ^^^ b[k]) := by rw [foldX]; simp [List.getD, hka, hkb]
          rw [e, UInt8.toNat_or]; exact u8_or_nat _ _ (foldX a b k).toNat_lt (a[k] ^^^ b[k]).toNat_lt
        obtain ⟨f1, hf1⟩ : ∃ f, f = foldX a b (k + 1) := ⟨_, rfl⟩
        obtain ⟨f0, hf0⟩ : ∃ f, f = foldX a b k := ⟨_, rfl⟩
        obtain ⟨xa, hxa⟩ : ∃ f, f = a[k] := ⟨_, rfl⟩
        obtain ⟨xb, hxb⟩ : ∃ f, f = b[k] := ⟨_, rfl⟩
        rw [← hf1, ← hf0, ← hxa, ← hxb] at ho
        rw [← hxa, ← hxb] at hx HC
        rw [UInt8.toNat_xor] at ho
        rw [← hf0]
        have HF1 := Lib.hid hf1
        have HF := Lib.hid hF
        have HX := Lib.hid hx
        have HO := Lib.hid ho
        clear hA2 hB2 hF da db ea eb hx ho hf1 hf0 hxa hxb hka hkb hca hcb
        go_wp2_with fail
        have hx := HX.out
        have ho := HO.out
        refine wp_region_class (fun W => Fr0 wr W) (by kernel_rfl) (by kernel_rfl) ((Fr0.refl _).drew) ?_
        iterate 12 (refine q_val rfl (fun W hW => by have hc := (HC.out) W (Fr0.trans HF.out hW); go_simp; try rfl) ?_; simp only [Act.put, List.setIfInBounds_toArray, List.set_cons_zero, List.set_cons_succ])
        refine q_nil ?_
        intro w' hC
        clear hx ho
        go_wp2_with fail
        go_roundw
        case measure => simp [intOf]; omega
        case rel => exact ⟨k + 1, by omega, by go_num, by rw [HF1.out], Fr0.trans HF.out hC⟩
      · obtain rfl : k = n := by omega
        have HV := Lib.hid (show ((foldX a b k).toNat = 0) ↔ a = b from by
          rw [← HS.out]
          exact ⟨fun h => UInt8.toNat_inj.1 h, fun h => by rw [h]; rfl⟩)
        obtain ⟨fz, hfz⟩ : ∃ f, f = (foldX a b k).toNat := ⟨_, rfl⟩
        rw [← hfz] at HV ⊢
        by_cases h0 : fz = 0
        · subst h0
          have HB1 := Lib.hid (HSB.out.trans (decide_eq_true ((HV.out).1 rfl)))
          clear hfz
          go_wp2_with fail
          go_ret
          exact ⟨by rw [HB1.out]; rfl, hF⟩
        · have HB1 := Lib.hid (HSB.out.trans (decide_eq_false (fun h => h0 ((HV.out).2 h))))
          have q1 : ((fz : Int) == 0) = false := by simp; omega
          have q2 : (fz == 0) = false := by simpa using h0
          clear hfz h0
          go_wp2_with fail
          go_ret
          exact ⟨by rw [HB1.out]; rfl, hF⟩
  · have hne : sameB a b = false := decide_eq_false (fun h => hl (by rw [h]))
    obtain ⟨na, hna⟩ : ∃ n, n = a.length := ⟨_, rfl⟩
    obtain ⟨nb, hnb⟩ : ∃ n, n = b.length := ⟨_, rfl⟩
    rw [← hna, ← hnb] at hl ⊢
    have q1 : ((na : Int) != (nb : Int)) = true := by simp; omega
    have q2 : (na != nb) = true := by simpa using hl
    have HNE := Lib.hid hne
    rw [hne]
    clear ha hb hna hnb hl hne
    go_enter Try.func10, Try.ntmps10
    go_wp2_with fail
    go_ret
    exact ⟨rfl, Fr0.refl w⟩
end Go.Proofs.Ytjkcbklgddnbdaa
set_option linter.unusedSimpArgs false
namespace Go.Proofs.Ytjkcbklgddnbdaa
open Go.RowKit

def Mk0 : List UInt8 := [107, 101, 121]
def Mt1 : List UInt8 := [84, 104, 101, 32, 113, 117, 105, 99, 107, 32, 98, 114, 111, 119, 110, 32, 102, 111, 120, 32]
def Mt2 : List UInt8 := [106, 117, 109, 112, 115, 32, 111, 118, 101, 114, 32, 116, 104, 101, 32, 108, 97, 122, 121, 32, 100, 111, 103]
theorem mac_row0 : (macN Mk0 ([Mt1, Mt2] : List (List UInt8)).flatten).take 4 = [247, 188, 131, 244] := by decide +kernel
theorem mac_row1 : (macN [] ([] : List (List UInt8)).flatten).take 4 = [182, 19, 103, 154] := by decide +kernel
/-- A constant's bytes, written out and read. -/
theorem lit_at {w : World} {g n : Nat} (hg : g = w.heap.size) (d : List UInt8) (hd : d.length = n) (hn : n ≤ 1000) (fz : Nat × Nat) : RdB (w.alloc (.cells (byts d).toArray 5 fz)) (.slice (some ⟨g, 0, none⟩) n n) d := by
  subst hg hd
  exact lit_bytes w 5 d (by omega) fz
theorem mac_k (W : World) : Calls Try.prog 8 #[.slice (some ⟨W.heap.size, 0, none⟩) 3 3, .slice (some ⟨W.heap.size + 1 + 1 + 1, 0, none⟩) 2 2]
    ((((W.alloc (.cells #[.int .u8 107, .int .u8 101, .int .u8 121] 5 (3, 4))).alloc (.cells #[.int .u8 84, .int .u8 104, .int .u8 101, .int .u8 32, .int .u8 113, .int .u8 117, .int .u8 105, .int .u8 99, .int .u8 107, .int .u8 32, .int .u8 98, .int .u8 114, .int .u8 111, .int .u8 119, .int .u8 110, .int .u8 32, .int .u8 102, .int .u8 111, .int .u8 120, .int .u8 32] 5 (20, 21))).alloc (.cells #[.int .u8 106, .int .u8 117, .int .u8 109, .int .u8 112, .int .u8 115, .int .u8 32, .int .u8 111, .int .u8 118, .int .u8 101, .int .u8 114, .int .u8 32, .int .u8 116, .int .u8 104, .int .u8 101, .int .u8 32, .int .u8 108, .int .u8 97, .int .u8 122, .int .u8 121, .int .u8 32, .int .u8 100, .int .u8 111, .int .u8 103] 5 (23, 24))).alloc (.cells #[.slice (some ⟨W.heap.size + 1, 0, none⟩) 20 20, .slice (some ⟨W.heap.size + 1 + 1, 0, none⟩) 23 23] 22))
    fun e w' => e = .returned (.agg (byts (macN Mk0 ([Mt1, Mt2] : List (List UInt8)).flatten)).toArray) ∧ Fr0 W w' := by
  have e1 : (W.alloc (.cells #[.int .u8 107, .int .u8 101, .int .u8 121] 5 (3, 4))).heap.size = W.heap.size + 1 := Array.size_push _
  have e2 : ((W.alloc (.cells #[.int .u8 107, .int .u8 101, .int .u8 121] 5 (3, 4))).alloc (.cells #[.int .u8 84, .int .u8 104, .int .u8 101, .int .u8 32, .int .u8 113, .int .u8 117, .int .u8 105, .int .u8 99, .int .u8 107, .int .u8 32, .int .u8 98, .int .u8 114, .int .u8 111, .int .u8 119, .int .u8 110, .int .u8 32, .int .u8 102, .int .u8 111, .int .u8 120, .int .u8 32] 5 (20, 21))).heap.size = W.heap.size + 1 + 1 := by rw [← e1]; exact Array.size_push _
  have r0 : RdB (W.alloc (.cells #[.int .u8 107, .int .u8 101, .int .u8 121] 5 (3, 4))) (.slice (some ⟨W.heap.size, 0, none⟩) 3 3) Mk0 := lit_at rfl Mk0 rfl (by decide) (3, 4)
  generalize hW1 : W.alloc (.cells #[.int .u8 107, .int .u8 101, .int .u8 121] 5 (3, 4)) = W1 at *
  have r1 : RdB (W1.alloc (.cells #[.int .u8 84, .int .u8 104, .int .u8 101, .int .u8 32, .int .u8 113, .int .u8 117, .int .u8 105, .int .u8 99, .int .u8 107, .int .u8 32, .int .u8 98, .int .u8 114, .int .u8 111, .int .u8 119, .int .u8 110, .int .u8 32, .int .u8 102, .int .u8 111, .int .u8 120, .int .u8 32] 5 (20, 21))) (.slice (some ⟨W.heap.size + 1, 0, none⟩) 20 20) Mt1 := lit_at e1.symm Mt1 rfl (by decide) (20, 21)
  have f1 := Fr0.alloc (Fr0.refl W1) (.cells #[.int .u8 84, .int .u8 104, .int .u8 101, .int .u8 32, .int .u8 113, .int .u8 117, .int .u8 105, .int .u8 99, .int .u8 107, .int .u8 32, .int .u8 98, .int .u8 114, .int .u8 111, .int .u8 119, .int .u8 110, .int .u8 32, .int .u8 102, .int .u8 111, .int .u8 120, .int .u8 32] 5 (20, 21))
  generalize hW2 : W1.alloc (.cells #[.int .u8 84, .int .u8 104, .int .u8 101, .int .u8 32, .int .u8 113, .int .u8 117, .int .u8 105, .int .u8 99, .int .u8 107, .int .u8 32, .int .u8 98, .int .u8 114, .int .u8 111, .int .u8 119, .int .u8 110, .int .u8 32, .int .u8 102, .int .u8 111, .int .u8 120, .int .u8 32] 5 (20, 21)) = W2 at *
  have r2 : RdB (W2.alloc (.cells #[.int .u8 106, .int .u8 117, .int .u8 109, .int .u8 112, .int .u8 115, .int .u8 32, .int .u8 111, .int .u8 118, .int .u8 101, .int .u8 114, .int .u8 32, .int .u8 116, .int .u8 104, .int .u8 101, .int .u8 32, .int .u8 108, .int .u8 97, .int .u8 122, .int .u8 121, .int .u8 32, .int .u8 100, .int .u8 111, .int .u8 103] 5 (23, 24))) (.slice (some ⟨W.heap.size + 1 + 1, 0, none⟩) 23 23) Mt2 := lit_at e2.symm Mt2 rfl (by decide) (23, 24)
  have f2 := Fr0.alloc (Fr0.refl W2) (.cells #[.int .u8 106, .int .u8 117, .int .u8 109, .int .u8 112, .int .u8 115, .int .u8 32, .int .u8 111, .int .u8 118, .int .u8 101, .int .u8 114, .int .u8 32, .int .u8 116, .int .u8 104, .int .u8 101, .int .u8 32, .int .u8 108, .int .u8 97, .int .u8 122, .int .u8 121, .int .u8 32, .int .u8 100, .int .u8 111, .int .u8 103] 5 (23, 24))
  have e3 : (W2.alloc (.cells #[.int .u8 106, .int .u8 117, .int .u8 109, .int .u8 112, .int .u8 115, .int .u8 32, .int .u8 111, .int .u8 118, .int .u8 101, .int .u8 114, .int .u8 32, .int .u8 116, .int .u8 104, .int .u8 101, .int .u8 32, .int .u8 108, .int .u8 97, .int .u8 122, .int .u8 121, .int .u8 32, .int .u8 100, .int .u8 111, .int .u8 103] 5 (23, 24))).heap.size = W.heap.size + 1 + 1 + 1 := by rw [← e2]; exact Array.size_push _
  generalize hW3 : W2.alloc (.cells #[.int .u8 106, .int .u8 117, .int .u8 109, .int .u8 112, .int .u8 115, .int .u8 32, .int .u8 111, .int .u8 118, .int .u8 101, .int .u8 114, .int .u8 32, .int .u8 116, .int .u8 104, .int .u8 101, .int .u8 32, .int .u8 108, .int .u8 97, .int .u8 122, .int .u8 121, .int .u8 32, .int .u8 100, .int .u8 111, .int .u8 103] 5 (23, 24)) = W3 at *
  have h4 := heap_alloc_new W3 (.cells #[.slice (some ⟨W.heap.size + 1, 0, none⟩) 20 20, .slice (some ⟨W.heap.size + 1 + 1, 0, none⟩) 23 23] 22)
  rw [e3] at h4
  have f3 := Fr0.alloc (Fr0.refl W3) (.cells #[.slice (some ⟨W.heap.size + 1, 0, none⟩) 20 20, .slice (some ⟨W.heap.size + 1 + 1, 0, none⟩) 23 23] 22)
  have f01 : Fr0 W W1 := by rw [← hW1]; exact (Fr0.refl W).alloc _
  refine (mof_any (key := Mk0) (ds := [Mt1, Mt2]) (vs := [.slice (some ⟨W.heap.size + 1, 0, none⟩) 20 20, .slice (some ⟨W.heap.size + 1 + 1, 0, none⟩) 23 23]) (r0.fr0 (Fr0.trans f1 (Fr0.trans f2 f3))) (by decide)
    ⟨rfl, ⟨_, _, rfl, by simp, by unfold maxLen; simp, fun h => by cases h⟩, fun _ => ⟨_, 0, 2, _, _, _, rfl, h4, fun j u hu => by simpa using hu⟩⟩
    (fun i hi => by
      simp at hi
      rcases (by omega : i = 0 ∨ i = 1) with rfl | rfl
      · exact ⟨_, rfl, r1.fr0 (Fr0.trans f2 f3)⟩
      · exact ⟨_, rfl, r2.fr0 f3⟩) (by decide)).mono ?_
  rintro e w' ⟨rfl, hf⟩
  exact ⟨rfl, Fr0.trans f01 (Fr0.trans f1 (Fr0.trans f2 (Fr0.trans f3 hf)))⟩
theorem mac_0 (W : World) : Calls Try.prog 8 #[.slice none 0 0, .slice none 0 0] W fun e w' => e = .returned (.agg (byts (macN [] ([] : List (List UInt8)).flatten)).toArray) ∧ Fr0 W w' :=
  mof_any (RdB.nil W) (by simp) (ds := []) (vs := []) (Rd.nil W 1) (fun i hi => by simp at hi) (by simp)
theorem same_lit (W : World) (a b : List UInt8) {n m : Nat} (ha : a.length = n) (hb : b.length = m) (hn : n ≤ 100) (hm : m ≤ 100) : Calls Try.prog 10 #[.slice (some ⟨W.heap.size, 0, none⟩) n n, .slice (some ⟨W.heap.size + 1, 0, none⟩) m m]
    ((W.alloc (.cells (byts a).toArray 5 (n, n + 1))).alloc (.cells (byts b).toArray 5 (m, m + 1))) fun e w' => e = .returned (.bool (sameB a b)) ∧ Fr0 W w' := by
  have e1 : (W.alloc (.cells (byts a).toArray 5 (n, n + 1))).heap.size = W.heap.size + 1 := Array.size_push _
  refine (msame_any ((lit_at rfl a ha (by omega) _).fr0 ((Fr0.refl _).alloc _)) (lit_at e1.symm b hb (by omega) _)).mono ?_
  rintro e w' ⟨rfl, hf⟩
  exact ⟨rfl, Fr0.trans (((Fr0.refl W).alloc _).alloc _) hf⟩
theorem same_ab (W : World) : Calls Try.prog 10 #[.slice (some ⟨W.heap.size, 0, none⟩) 2 2, .slice (some ⟨W.heap.size + 1, 0, none⟩) 2 2]
    ((W.alloc (.cells #[.int .u8 97, .int .u8 98] 5 (2, 3))).alloc (.cells #[.int .u8 97, .int .u8 98] 5 (2, 3))) fun e w' => e = .returned (.bool true) ∧ Fr0 W w' := same_lit W [97, 98] [97, 98] rfl rfl (by decide) (by decide)
theorem same_a (W : World) : Calls Try.prog 10 #[.slice (some ⟨W.heap.size, 0, none⟩) 2 2, .slice (some ⟨W.heap.size + 1, 0, none⟩) 1 1]
    ((W.alloc (.cells #[.int .u8 97, .int .u8 98] 5 (2, 3))).alloc (.cells #[.int .u8 97] 5 (1, 2))) fun e w' => e = .returned (.bool false) ∧ Fr0 W w' := same_lit W [97, 98] [97] rfl rfl (by decide) (by decide)
set_option maxHeartbeats 4000000 in
set_option maxRecDepth 10000 in
theorem known03_any (w : World) : Calls Try.prog 7 #[] w fun e w' => e = .returned (.bool true) ∧ Fr0 w w' := by
  have hcv := fun (w : World) (C : Array Value) (n c : Nat) => Lib.run_convert_bytes_const (P := Try.prog) w 22 5 C n c Try.underlying22 Try.underlying5
  have hcv2 := fun (w : World) (o : Obj) (C : Array Value) (n c : Nat) => show (convert 22 22 (.slice (some ⟨w.heap.size + 1, 0, none⟩) n c)).run Try.prog ((w.alloc o).alloc (.cells C 5)) = .ok (.slice (some ⟨w.heap.size + 1, 0, none⟩) n c) ((w.alloc o).alloc (.cells C 5 (C.size, C.size + 1))) from by
    have h := Lib.run_convert_bytes_const (P := Try.prog) (w.alloc o) 22 5 C n c Try.underlying22 Try.underlying5
    rw [show (w.alloc o).heap.size = w.heap.size + 1 from Array.size_push _] at h
    exact h
  have hcv3 := fun (w : World) (o o2 : Obj) (C : Array Value) (n c : Nat) => show (convert 22 22 (.slice (some ⟨w.heap.size + 1 + 1, 0, none⟩) n c)).run Try.prog (((w.alloc o).alloc o2).alloc (.cells C 5)) = .ok (.slice (some ⟨w.heap.size + 1 + 1, 0, none⟩) n c) (((w.alloc o).alloc o2).alloc (.cells C 5 (C.size, C.size + 1))) from by
    have h := Lib.run_convert_bytes_const (P := Try.prog) ((w.alloc o).alloc o2) 22 5 C n c Try.underlying22 Try.underlying5
    rw [show ((w.alloc o).alloc o2).heap.size = w.heap.size + 1 + 1 from by rw [← show (w.alloc o).heap.size = w.heap.size + 1 from Array.size_push _]; exact Array.size_push _] at h
    exact h
  have HM0 := Lib.hid (mac_k w)
  have HM1 := Lib.hid (fun W => mac_0 W)
  have l0 := macN_len Mk0 ([Mt1, Mt2] : List (List UInt8)).flatten
  have l1 := macN_len [] ([] : List (List UInt8)).flatten
  have r0 := mac_row0
  have r1 := mac_row1
  obtain ⟨d0, hd0⟩ : ∃ d, d = macN Mk0 ([Mt1, Mt2] : List (List UInt8)).flatten := ⟨_, rfl⟩
  obtain ⟨d1, hd1⟩ : ∃ d, d = macN [] ([] : List (List UInt8)).flatten := ⟨_, rfl⟩
  rw [← hd0] at HM0 l0 r0
  rw [← hd1] at HM1 l1 r1
  have HR0 := Lib.hid r0
  have HR1 := Lib.hid r1
  have HL0 := Lib.hid l0
  have HL1 := Lib.hid l1
  have hi0 := Lib.hid (dig_info l0)
  have hi1 := Lib.hid (dig_info l1)
  have ho0 := z32_size l0
  have ho1 := z32_size l1
  have ha0 := byts_all d0
  have ha1 := byts_all d1
  have HRUN := Lib.hid (fun W => z32_run W)
  obtain ⟨z32, hz32⟩ : ∃ z, z = z32A := ⟨_, rfl⟩
  rw [← hz32] at HRUN ho0 ho1
  obtain ⟨s0, hs0⟩ : ∃ s, s = (byts d0).toArray := ⟨_, rfl⟩
  obtain ⟨s1, hs1⟩ : ∃ s, s = (byts d1).toArray := ⟨_, rfl⟩
  rw [← hs0] at HM0 hi0 ho0 ha0
  rw [← hs1] at HM1 hi1 ho1 ha1
  have HS0 := Lib.hid hs0
  have HS1 := Lib.hid hs1
  have HO0 := Lib.hid ho0
  have HO1 := Lib.hid ho1
  clear l0 l1 r0 r1 hd0 hd1 hz32 hs0 hs1 ho0 ho1
  go_enter Try.func7, Try.ntmps7
  go_upto_region 2 with (first
    | (have _q := F1; go_at_call 8; refine (HM1.out _).mono ?_; rintro e w2 ⟨rfl, hf⟩; have F2 := Lib.hid (Fr0.trans F1.out hf); clear hf)
    | (go_at_call 8; refine (HM0.out).mono ?_; rintro e w1 ⟨rfl, hf⟩; have F1 := Lib.hid hf; clear hf)
    | (have _q := BA; refine list_alloc_blk rfl 25 rfl z32 HRUN.out ?_; intro gb w4 hB hF hl; have BB := Lib.hid hB; have BA4 := Lib.hid ((BA.out).fr0 hF); have F4 := Lib.hid (Fr0.trans F3.out hF); have lb := Lib.hid hl; clear hB hF hl)
    | (refine list_alloc_blk rfl 25 rfl z32 HRUN.out ?_; intro ga w3 hB hF hl; have BA := Lib.hid hB; have F3 := Lib.hid (Fr0.trans F2.out hF); have la := Lib.hid (And.intro hl (Nat.le_trans (F2.out).size hl)); clear hB hF hl)
    | (have _q := F5; refine list_store_blk rfl 25 _ _ rfl gb _ rfl rfl 25 _ BB5.out hi1.out HO1.out ha1 ?_; intro w6 hB hF; have BB6 := Lib.hid hB; have BA6 := Lib.hid ((BA5.out).fr1 hF (by have := lb.out; have := (BA.out).lt; omega)); have F6 := Lib.hid (Fr0.new F5.out hF (by have := (F3.out).size; have := lb.out; omega)); clear hB hF)
    | (have _q := F4; refine list_store_blk rfl 25 _ _ rfl ga _ rfl rfl 25 _ BA4.out hi0.out HO0.out ha0 ?_; intro w5 hB hF; have BA5 := Lib.hid hB; have BB5 := Lib.hid ((BB.out).fr1 hF (by have := lb.out; have := (BA.out).lt; omega)); have F5 := Lib.hid (Fr0.new F4.out hF (la.out).2); clear hB hF))
  have c1 : (convert 22 9 (.slice (some ⟨ga, 0, none⟩) 4 32)).run Try.prog w6 = .ok (.string ⟨#[247, 188, 131, 244]⟩) w6 := conv_bytes (d := [247, 188, 131, 244]) w6 _ _ _ Try.underlying22 Try.underlying5 Try.underlying9 (by
    have hb := BA6.out
    rw [HS0.out] at hb
    have h := arr_rd hb (o := 0) (k := 4) (c := 32) (by rw [HL0.out]; decide) (by decide) (by unfold maxLen; decide)
    rw [List.drop_zero, HR0.out] at h
    exact h)
  have c2 : (convert 22 9 (.slice (some ⟨gb, 0, none⟩) 4 32)).run Try.prog w6 = .ok (.string ⟨#[182, 19, 103, 154]⟩) w6 := conv_bytes (d := [182, 19, 103, 154]) w6 _ _ _ Try.underlying22 Try.underlying5 Try.underlying9 (by
    have hb := BB6.out
    rw [HS1.out] at hb
    have h := arr_rd hb (o := 0) (k := 4) (c := 32) (by rw [HL1.out]; decide) (by decide) (by unfold maxLen; decide)
    rw [List.drop_zero, HR1.out] at h
    exact h)
  have HSA := Lib.hid (same_ab w6)
  have HSB := Lib.hid (fun W => same_a W)
  go_wp2_with (first
    | (have _q := F7; go_at_call 10; refine (HSB.out _).mono ?_; rintro e w8 ⟨rfl, hf⟩; have F8 := Lib.hid (Fr0.trans F7.out hf); clear hf)
    | (go_at_call 10; refine (HSA.out).mono ?_; rintro e w7 ⟨rfl, hf⟩; have F7 := Lib.hid (Fr0.trans F6.out hf); clear hf))
  go_ret
  exact ⟨rfl, F8.out⟩
end Go.Proofs.Ytjkcbklgddnbdaa
namespace Go.Proofs.Ytjkcbklgddnbdaa

/-- The groups ahead of the last one. -/
def hiW (n : Nat) : List UInt8 := if _h : n = 0 then [] else hiW (n / 128) ++ [UInt8.ofNat (128 + n % 128)]
termination_by n
decreasing_by omega
/-- A number's form. -/
def form (n : Nat) : List UInt8 := hiW (n / 128) ++ [UInt8.ofNat (n % 128)]

theorem hi_zero : hiW 0 = [] := by rw [hiW]; simp
theorem hi_pos {n : Nat} (h : 0 < n) : hiW n = hiW (n / 128) ++ [UInt8.ofNat (128 + n % 128)] := by rw [hiW, dif_neg (by omega)]

theorem hi_len_le (k : Nat) : ∀ n, n < 128 ^ k → (hiW n).length ≤ k := by
  induction k with
  | zero =>
    intro n h
    have h0 : n = 0 := by simpa using h
    subst h0
    simp [hi_zero]
  | succ k ih =>
    intro n h
    rcases Nat.eq_zero_or_pos n with h0 | h0
    · subst h0; simp [hi_zero]
    · rw [hi_pos h0, List.length_append]
      have := ih (n / 128) (by rw [Nat.div_lt_iff_lt_mul (by omega)]; rw [Nat.pow_succ] at h; exact h)
      simp; omega
theorem form_len_le {n : Nat} (h : n < 18446744073709551616) : (form n).length ≤ 10 := by
  unfold form
  have := hi_len_le 9 (n / 128) (by have : (128 : Nat) ^ 9 = 9223372036854775808 := by decide
                                    omega)
  rw [List.length_append]
  simp; omega
theorem form_pos (n : Nat) : 0 < (form n).length := by unfold form; rw [List.length_append]; simp

/-- What is read: the number and how many bytes; (0, 0): none. -/
def rdNum : List UInt8 → Nat → Nat → Nat × Nat
  | [], _, _ => (0, 0)
  | x :: r, i, n => if (i = 0 ∧ x = 128) ∨ 144115188075855871 < n then (0, 0) else if x < 128 then (n * 128 + x.toNat % 128, i + 1) else rdNum r (i + 1) (n * 128 + x.toNat % 128)

theorem u8_lt {x : UInt8} : x < 128 ↔ x.toNat < 128 := UInt8.lt_iff_toNat_lt
theorem u8_eq {x : UInt8} : x = 128 ↔ x.toNat = 128 := by rw [← UInt8.toNat_inj]; rfl
theorem u8_of (n : Nat) (h : n < 256) : (UInt8.ofNat n).toNat = n := by rw [UInt8.toNat_ofNat']; omega
theorem u8_back (x : UInt8) : UInt8.ofNat x.toNat = x := UInt8.ofNat_toNat

theorem rd_hi : ∀ (m : Nat), m < 144115188075855872 → ∀ r : List UInt8, rdNum (hiW m ++ r) 0 0 = if m = 0 then rdNum r 0 0 else rdNum r (hiW m).length m := by
  intro m
  induction m using Nat.strongRecOn with
  | _ m ih =>
    intro hm r
    rcases Nat.eq_zero_or_pos m with h0 | h0
    · subst h0; simp [hi_zero]
    · rw [if_neg (by omega), hi_pos h0, List.append_assoc, ih (m / 128) (by omega) (by omega)]
      have hx : (UInt8.ofNat (128 + m % 128)).toNat = 128 + m % 128 := u8_of _ (by omega)
      have hl : ¬ UInt8.ofNat (128 + m % 128) < 128 := by rw [u8_lt, hx]; omega
      by_cases h1 : m / 128 = 0
      · rw [if_pos h1, h1, hi_zero]
        simp only [List.singleton_append, rdNum, List.nil_append, List.length_singleton]
        rw [if_neg, if_neg hl, hx]
        · congr 1; omega
        · rintro (⟨_, h2⟩ | h2)
          · rw [u8_eq, hx] at h2; omega
          · omega
      · rw [if_neg h1]
        simp only [List.singleton_append, rdNum, List.length_append, List.length_singleton]
        rw [if_neg, if_neg hl, hx]
        · congr 1; omega
        · rintro (⟨h2, _⟩ | h2)
          · rw [hi_pos (by omega : 0 < m / 128), List.length_append] at h2; simp at h2
          · omega

theorem rd_form (n : Nat) (hn : n < 18446744073709551616) (r : List UInt8) : rdNum (form n ++ r) 0 0 = (n, (form n).length) := by
  unfold form
  rw [List.append_assoc, rd_hi (n / 128) (by omega)]
  have hx : (UInt8.ofNat (n % 128)).toNat = n % 128 := u8_of _ (by omega)
  have hl : UInt8.ofNat (n % 128) < 128 := by rw [u8_lt, hx]; omega
  by_cases h1 : n / 128 = 0
  · rw [if_pos h1, h1, hi_zero]
    simp only [List.singleton_append, rdNum, List.nil_append, List.length_singleton]
    rw [if_neg, if_pos hl, hx]
    · congr 1; omega
    · rintro (⟨_, h2⟩ | h2)
      · rw [u8_eq, hx] at h2; omega
      · omega
  · rw [if_neg h1]
    simp only [List.singleton_append, rdNum, List.length_append, List.length_singleton]
    rw [if_neg, if_pos hl, hx]
    · congr 1; omega
    · rintro (⟨h2, _⟩ | h2)
      · rw [hi_pos (by omega : 0 < n / 128), List.length_append] at h2; simp at h2
      · omega

theorem rd_back : ∀ (d : List UInt8) (i acc : Nat), (hiW acc).length = i → (∀ n k, rdNum d i acc = (n, k) → 0 < k → i < k ∧ k ≤ i + d.length ∧ n < 18446744073709551616 ∧ hiW acc ++ d.take (k - i) = form n) := by
  intro d
  induction d with
  | nil => intro i acc _ n k h hk; simp [rdNum] at h; omega
  | cons x r ih =>
    intro i acc hacc n k h hk
    simp only [rdNum] at h
    by_cases hc : (i = 0 ∧ x = 128) ∨ 144115188075855871 < acc
    · rw [if_pos hc] at h; simp at h; omega
    · rw [if_neg hc] at h
      have hxl := x.toNat_lt
      by_cases hl : x < 128
      · rw [if_pos hl] at h
        rw [u8_lt] at hl
        simp only [Prod.mk.injEq] at h
        obtain ⟨h1, h2⟩ := h
        subst h1 h2
        refine ⟨by omega, by simp, by omega, ?_⟩
        rw [show i + 1 - i = 1 from by omega]
        unfold form
        rw [show (acc * 128 + x.toNat % 128) / 128 = acc from by omega, show (acc * 128 + x.toNat % 128) % 128 = x.toNat from by omega, u8_back]
        simp
      · rw [if_neg hl] at h
        rw [u8_lt] at hl
        have hm : 0 < acc * 128 + x.toNat % 128 := by
          rcases Nat.eq_zero_or_pos acc with h0 | h0
          · subst h0
            rw [hi_zero] at hacc
            have : x ≠ 128 := fun e => hc (.inl ⟨by simpa using hacc.symm, e⟩)
            rw [Ne, u8_eq] at this
            omega
          · omega
        have hh : hiW (acc * 128 + x.toNat % 128) = hiW acc ++ [x] := by
          rw [hi_pos hm, show (acc * 128 + x.toNat % 128) / 128 = acc from by omega, show 128 + (acc * 128 + x.toNat % 128) % 128 = x.toNat from by omega, u8_back]
        obtain ⟨a, b, c, e⟩ := ih (i + 1) (acc * 128 + x.toNat % 128) (by rw [hh, List.length_append, hacc]; rfl) n k h hk
        refine ⟨by omega, by simp; omega, c, ?_⟩
        rw [hh, List.append_assoc] at e
        rw [← e, show k - i = (k - (i + 1)) + 1 from by omega]
        simp

/-- What was read, put again, is the bytes that were read. -/
theorem rd_once {d : List UInt8} {n k : Nat} (h : rdNum d 0 0 = (n, k)) (hk : 0 < k) : k ≤ d.length ∧ n < 18446744073709551616 ∧ d.take k = form n := by
  obtain ⟨_, b, c, e⟩ := rd_back d 0 0 (by simp [hi_zero]) n k h hk
  rw [hi_zero] at e
  exact ⟨by omega, c, by simpa using e⟩
theorem rd_zero {d : List UInt8} {n : Nat} (h : rdNum d 0 0 = (n, 0)) : n = 0 := by
  have gen : ∀ (d : List UInt8) (i acc : Nat), ∀ n, rdNum d i acc = (n, 0) → n = 0 := by
    intro d
    induction d with
    | nil => intro i acc n h; simp [rdNum] at h; omega
    | cons x r ih =>
      intro i acc n h
      simp only [rdNum] at h
      split at h
      · simp at h; omega
      · split at h
        · simp at h
        · exact ih _ _ _ h
  exact gen d 0 0 n h
end Go.Proofs.Ytjkcbklgddnbdaa
set_option linter.unusedSimpArgs false
namespace Go.Proofs.Ytjkcbklgddnbdaa
open Go.RowKit

theorem fold_put (off : Nat) : ∀ (l : List Value) (k : Nat) (cells : Array Value), (l.zipIdx k).foldl (fun cs (p : Value × Nat) => cs.setIfInBounds (off + p.2) p.1) cells = putAt cells (off + k) l
  | [], _, _ => rfl
  | v :: r, k, cells => by
    simp only [List.zipIdx_cons, List.foldl_cons, putAt]
    rw [fold_put off r (k + 1)]
    rfl
/-- Two rows laid one behind the other fill a row. -/
theorem putAt_two (z : Array Value) (a b : List Value) (h : z.size = a.length + b.length) : putAt (putAt z 0 a) a.length b = (a ++ b).toArray := by
  apply Array.ext_getElem?
  intro i
  by_cases h1 : i < a.length
  · rw [putAt_out _ _ _ _ (.inl h1)]
    have := putAt_in a z 0 i h1 (by omega)
    rw [Nat.zero_add] at this
    rw [this, List.getElem?_toArray, List.getElem?_append_left h1]
  · by_cases h2 : i < a.length + b.length
    · have := putAt_in b (putAt z 0 a) a.length (i - a.length) (by omega) (by rw [putAt_size]; omega)
      rw [show a.length + (i - a.length) = i by omega] at this
      rw [this, List.getElem?_toArray, List.getElem?_append_right (by omega)]
    · have hz : z[i]? = none := Array.getElem?_eq_none (by omega)
      rw [putAt_out _ _ _ _ (.inr (by omega)), putAt_out _ _ _ _ (.inr (by omega)), hz]
      symm
      rw [List.getElem?_toArray]
      exact List.getElem?_eq_none (by simp; omega)
theorem fold_putA (off : Nat) (l : List Value) (cells : Array Value) : (l.toArray.zipIdx).foldl (fun cs (p : Value × Nat) => cs.setIfInBounds (off + p.2) p.1) cells = putAt cells off l := by
  have := fold_put off l 0 cells
  simpa using this
def zK : Array Value := (byts (List.replicate 48 0)).toArray
theorem zK_size : zK.size = 48 := rfl
theorem key_zero : Try.prog.built 34 [] = some zK := by kernel_rfl
theorem key_info : ((Try.prog.info? 34).bind fun i => i.zero) = some (.agg zK) := by kernel_rfl
def keyPlaces : List (Nat × Nat) := [(0, 16), (16, 32)]
theorem key_places : (match Try.prog.underlying 34 with | some (.struct fs) => fs.toList.mapM (fun f => (Try.prog.info? f.type).map fun i => (f.offset, i.size)) | _ => none) = some keyPlaces := by kernel_rfl
theorem key_built {a b : List UInt8} (ha : a.length = 16) (hb : b.length = 32) : Try.prog.built 34 [(0, .agg (byts a).toArray), (1, .agg (byts b).toArray)] = some (byts (a ++ b)).toArray := by
  have h1 := key_info
  have h2 := key_places
  unfold Program.built
  cases hi : Try.prog.info? 34 with
  | none => rw [hi] at h1; cases h1
  | some it =>
    rw [hi] at h1
    have hz : it.zero = some (.agg zK) := h1
    cases hu : Try.prog.underlying 34 with
    | none => rw [hu] at h2; cases h2
    | some d =>
      rw [hu] at h2
      cases d with
      | struct fs =>
        simp only at h2
        have e : ∀ (l : List UInt8), (byts l).toArray.size = l.length := fun l => by simp [byts]
        simp only [hz, h2]
        unfold Instr.fill Instr.fill Instr.fill
        simp only [keyPlaces]
        have p0 : ([(0, 16), (16, 32)] : List (Nat × Nat)).toArray[0]? = some (0, 16) := rfl
        have p1 : ([(0, 16), (16, 32)] : List (Nat × Nat)).toArray[1]? = some (16, 32) := rfl
        simp only [p0, p1, Value.cells, e, ha, hb, zK_size]
        have hs : (putAt zK 0 (byts a)).size = 48 := by rw [putAt_size]; rfl
        have la : (byts a).length = 16 := by rw [byts_len, ha]
        rw [fold_putA 0, fold_putA 16, hs, if_neg (by decide), if_neg (by decide)]
        have := putAt_two zK (byts a) (byts b) (by rw [la, byts_len, hb]; rfl)
        rw [la] at this
        rw [this, byts_app]
      | _ => simp at h2
theorem key_fields : (Try.prog.fieldsOf 34).toList.map (fun f => (f.name == "_", f.type, f.offset)) = [(false, 32, 0), (false, 25, 16)] := by kernel_rfl
theorem key_is : Try.prog.underlying 34 = some (.struct (Try.prog.fieldsOf 34)) := by kernel_rfl
theorem part_arr {P : Program} {w : World} {t e : TypeId} {n off : Nat} {xs : Array Value} {i : TypeInfo} (hu : P.underlying t = some (.array n e)) (hi : P.info? t = some i) : (part t xs off).run P w = .ok (.agg (xs.extract off (off + P.cellsOf t))) w := by
  unfold part isAgg
  simp [Sem.run_bind, run_underlying hu, run_sizeOf w hi]
theorem arr_same {w : World} {d n : Nat} {t e : TypeId} {l : List UInt8} {i : TypeInfo} (hu : Try.prog.underlying t = some (.array n e)) (hi : Try.prog.info? e = some i) (he : Try.prog.underlying e = some (.int .u8)) (hc : Try.prog.cellsOf e = 1) (hl : l.length = n) :
    (Op.equalIn (d + 2) t (.agg (byts l).toArray) (.agg (byts l).toArray)).run Try.prog w = .ok true w := by
  rw [iArr_byts, run_equalIn_ints d hu hi he hc (by simpa using hl) (by simpa using hl), decide_eq_true rfl]
theorem key_ext {a b : List UInt8} (ha : a.length = 16) (hb : b.length = 32) : (byts (a ++ b)).toArray.extract 0 (0 + 16) = (byts a).toArray ∧ (byts (a ++ b)).toArray.extract 16 (16 + 32) = (byts b).toArray := by
  have la : (byts a).length = 16 := by rw [byts_len, ha]
  have lb : (byts b).length = 32 := by rw [byts_len, hb]
  rw [byts_app]
  constructor <;> apply Array.ext_getElem? <;> intro i
  · simp [la]
  · simp [la, lb]
    rw [List.take_of_length_le (by omega)]
/-- The comparison of two such keys of one value. -/
theorem key_eql {a b : List UInt8} (ha : a.length = 16) (hb : b.length = 32) (w : World) : (binOp .eql 34 (.agg (byts (a ++ b)).toArray) (.agg (byts (a ++ b)).toArray)).run Try.prog w = .ok (.bool true) w := by
  obtain ⟨e1, e2⟩ := key_ext ha hb
  obtain ⟨i8, hi8⟩ := info_of_underlying Try.underlying5
  obtain ⟨i16, hi16⟩ := info_of_underlying Try.underlying32
  obtain ⟨i32, hi32⟩ := info_of_underlying Try.underlying25
  have c16 : Try.prog.cellsOf 32 = 16 := by kernel_rfl
  have c32 : Try.prog.cellsOf 25 = 32 := by kernel_rfl
  have c8 : Try.prog.cellsOf 5 = 1 := by kernel_rfl
  rw [run_eql_struct, run_equalIn_struct w 9999 34 _ _ key_is (by kernel_rfl)]
  have hf := key_fields
  generalize (Try.prog.fieldsOf 34).toList = fs at hf
  have hl : fs.length = 2 := by simpa using congrArg List.length hf
  obtain ⟨f0, f1, rfl⟩ : ∃ f0 f1, fs = [f0, f1] := by
    cases fs with
    | nil => simp at hl
    | cons f0 r =>
      cases r with
      | nil => simp at hl
      | cons f1 r =>
        cases r with
        | nil => exact ⟨f0, f1, rfl⟩
        | cons _ _ => simp at hl
  simp only [List.map_cons, List.map_nil, List.cons.injEq, Prod.mk.injEq, and_true] at hf
  obtain ⟨⟨n0, t0, o0⟩, ⟨n1, t1, o1⟩⟩ := hf
  have m0 : f0.name ≠ "_" := by simpa using n0
  have m1 : f1.name ≠ "_" := by simpa using n1
  simp only [Op.eqFields, m0, m1, ne_eq, not_false_eq_true, if_true, Sem.run_bind, t0, t1, o0, o1, part_arr Try.underlying32 hi16, part_arr Try.underlying25 hi32, c16, c32, e1, e2, Result.andThen_ok]
  rw [arr_same (d := 9997) Try.underlying32 hi8 Try.underlying5 c8 ha]
  simp only [Result.andThen_ok, Bool.not_true, Bool.false_eq_true, if_false, Sem.run_bind, part_arr Try.underlying25 hi32, c32, e2]
  rw [arr_same (d := 9997) Try.underlying25 hi8 Try.underlying5 c8 hb]
  simp [Result.andThen]
end Go.Proofs.Ytjkcbklgddnbdaa
namespace Go.Proofs.Ytjkcbklgddnbdaa
open Go.RowKit
variable {P : Program} {ops : Array Oper} {o : Oper} {a : Act} {w : World} {K : Act → World → Prop} {Q : Exit → Act → World → Prop}
/-- An operation whose guard, if any, holds comes up, written out. -/
theorem consG {md : Region.Mode} {S : World → Prop} {fuel : Nat} {listed : Array Bool} {i : Nat} {rs : List Nat} (ho : (ops.toList.drop i).head? = some o) (hw : Region.wanted o (yielded ops a.tmps) = true)
    (h : ∀ K' : Act → World → Prop, Shut (∀ a w, S w → wpAnyH P md ops Q S fuel (listed.setIfInBounds i true) a w → K' a w) → Oper.wp P o a w K' Q)
    (hs : AllReadyH P md ops Q S fuel listed a w rs) : AllReadyH P md ops Q S fuel listed a w (i :: rs) := by
  have ho' : ops[i]? = some o := by rw [← ho, List.head?_drop, Array.getElem?_toList]
  exact AllReadyH.cons ho' (fun K hK => stp hw (h K (fun a w hS hW => hK a w hS (fun _ => hW)))) hs
end Go.Proofs.Ytjkcbklgddnbdaa
namespace Go.Proofs.Ytjkcbklgddnbdaa
open Go.RowKit

theorem app_bytes {ops : Array Oper} {rest : List Oper} {o : Oper} {a : Act} {Q : Exit → Act → World → Prop} (hgd : o.guard = none) (s x : Operand)
    (ho : o.op = .call { callee := .builtin .append, args := #[s, x], argTypes := #[22, 22] }) {w0 w : World} (hf : Fr0 w0 w) {v1 v2 : Value} {L1 L2 : List UInt8} {k1 k2 : Nat}
    (h1 : w.ownsRow w0.heap.size 5 1 v1 k1 (byts L1)) (hs : a.eval s = v1) (h2 : Rd w 1 v2 k2 (byts L2)) (hx : a.eval x = v2) (hl : k1 + k2 ≤ 100000000)
    (h : ∀ A c w', w'.ownsRow w0.heap.size 5 1 (.slice A (k1 + k2) c) (k1 + k2) (byts (L1 ++ L2)) → Fr0 w0 w' → wpList Try.prog ops Q rest (a.put o.dst (.slice A (k1 + k2) c)) w') :
    wpList Try.prog ops Q (o :: rest) a w := by
  obtain ⟨i0, hi, hz0, hz1, hz2⟩ := info_parts infoU8
  refine wpList_append_rd _ hgd s x 22 ho w0.heap.size 5 i0 (.int .u8 0) 1 1 Try.underlying22 hi hz0 hz1 hz2 rfl (by decide) v1 k1 (byts L1) hs h1 v2 k2 (byts L2) hx h2 (byts_one L2) (by unfold maxLen; omega) (by omega) hf.size ?_
  intro v' w' hown hgrow
  rw [← byts_app] at hown
  obtain ⟨A, c, rfl, -, -, -⟩ := own_form hown
  exact h A c w' hown (Fr.grown hf hgrow (fun k hk => .inr (own_lt' h1 k hk).1))
theorem rdb_of {w : World} {v : Value} {k : Nat} {d : List UInt8} (h : Rd w 1 v k (byts d)) : RdB w v d := by
  have := h.len
  rw [byts_len] at this
  obtain rfl : d.length = k := by omega
  exact h
end Go.Proofs.Ytjkcbklgddnbdaa
namespace Go.Proofs.Ytjkcbklgddnbdaa
open Go.RowKit

theorem zeroCells_u8 (n : Nat) : Builtin.zeroCells (Value.int .u8 0).cells n = (List.replicate n (Value.int .u8 0)).toArray := by
  apply Array.ext
  · simp [Builtin.zeroCells, Value.cells]
  · intro i h1 h2
    simp [Builtin.zeroCells, Value.cells, Nat.mod_one]
theorem byts_zeros (n : Nat) : byts (List.replicate n 0) = List.replicate n (Value.int .u8 0) := by simp [byts]

theorem run_app_zeros {P : Program} (w : World) (base : Nat) (t tn ty e : TypeId) (i : TypeInfo) (kn : IntKind) (ht : P.underlying t = some (.slice e)) (htn : P.underlying tn = some (.int kn)) (hi : P.info? e = some i)
    (hz : i.zero = some (.int .u8 0)) (hsize : i.size = 1) (hby : i.bytes = 1)
    (v : Value) (k : Nat) (xs : List Value) (hown : w.ownsRow base e 1 v k xs) (n : Nat) (h63 : k + n ≤ 100000000) (hbase : base ≤ w.heap.size) :
    ∃ v' w', (Builtin.append_ #[t, tn] ty #[v, .int .i64 n]).run P w = .ok v' w' ∧ w'.ownsRow base e 1 v' (k + n) (xs ++ List.replicate n (.int .u8 0)) ∧ w.grownBy w' v.ownBlock := by
  have hw : IntKind.i64.wrap (n : Int) = n := by rw [IntKind.wrap_i64]; omega
  have hneg : ¬ ((n : Int) < 0) := by omega
  have h48i : ¬ (281474976710656 < (n : Int)) := by omega
  have hlen : (xs ++ List.replicate n (Value.int .u8 0)).length = (k + n) * 1 := by rw [List.length_append, hown.1, List.length_replicate]; omega
  have grown : ∀ (old : Nat), old < k + n → ∀ (row : Option Nat),
      (w.drew.alloc (.cells (xs.toArray ++ Builtin.zeroCells (Value.int .u8 0).cells n ++ Builtin.zeroCells (Value.int .u8 0).cells (grownCap w (k + n) old e - (k + n))) e)).ownsRow base e 1
        (.slice (some ⟨w.heap.size, 0, none⟩) (k + n) (grownCap w (k + n) old e)) (k + n) (xs ++ List.replicate n (.int .u8 0)) ∧
      w.grownBy (w.drew.alloc (.cells (xs.toArray ++ Builtin.zeroCells (Value.int .u8 0).cells n ++ Builtin.zeroCells (Value.int .u8 0).cells (grownCap w (k + n) old e - (k + n))) e)) row := by
    intro old ho row
    have hge := grownCap_ge w (k + n) old e
    have hcm : grownCap w (k + n) old e ≤ maxLen := grownCap_le_maxLen w (k + n) old e (by unfold maxLen; omega)
    have hx : xs.length = k := by have := hown.1; omega
    refine ⟨⟨hlen, .inr ⟨w.heap.size, _, _, rfl, hbase, heap_alloc_new w.drew _, hge, hcm, ?_, ?_⟩⟩, ⟨rfl, rfl, rfl, by simp, fun j hj _ => heap_alloc_old w.drew _ hj⟩⟩
    · simp only [Array.size_append, List.size_toArray, size_zeroCells, hx, Value.cells]
      simp
      omega
    · rw [zeroCells_u8]
      simp only [Array.toList_append, List.append_assoc]
      rw [← List.append_assoc, ← hlen]
      exact List.take_left
  rcases hown.2 with ⟨rfl, rfl⟩ | ⟨g, cap, cur, rfl, hbg, hg, hnc, hcm, hcs, htake⟩
  · have hx : xs = [] := List.eq_nil_of_length_eq_zero (by simpa using hown.1)
    subst hx
    by_cases hm : n = 0
    · subst hm
      refine ⟨.slice none 0 0, w, ?_, World.ownsRow_nil w base e 1, ⟨rfl, rfl, rfl, Nat.le_refl _, fun _ _ _ => rfl⟩⟩
      simp [Builtin.append_, run_underlying ht, run_underlying htn, sizeOf, typeInfo, hi, asInt, asIntOf, IntKind.wrap_i64]
    · have hr := Lib.run_append_nil_zeros (P := P) w t tn ty e i (.int .u8 0) .i64 kn ht htn hi hz n (by omega) (by omega) (by omega) (by rw [hby]; omega)
      have hgr := grown 0 (by omega) (Value.ownBlock (.slice none 0 0))
      simp only [Nat.zero_add, List.nil_append, Array.empty_append] at hgr ⊢
      exact ⟨_, _, hr, hgr.1, hgr.2⟩
  · by_cases hroom : k + n ≤ cap
    · have hst := run_storeCells_at P g k e (List.replicate n (Value.int .u8 0)) 0 cur w hg (by simp; omega) (by intro u hu; rw [List.eq_of_mem_replicate hu]; rfl)
      simp only [Nat.add_zero] at hst
      have hrun : (Builtin.append_ #[t, tn] ty #[.slice (some ⟨g, 0, none⟩) k cap, .int .i64 n]).run P w = .ok (.slice (some ⟨g, 0, none⟩) (k + n) cap) (w.setRow g (cur.toList.take k ++ List.replicate n (Value.int .u8 0) ++ cur.toList.drop (k + n)).toArray) := by
        by_cases hm : n = 0
        · subst hm
          simp only [List.replicate_zero] at hst ⊢
          simp [Builtin.append_, run_underlying ht, run_underlying htn, sizeOf, typeInfo, hi, hsize, hby, asInt, asIntOf, IntKind.wrap_i64, hnc, Addr.add_lit, hst]
        · simp [Builtin.append_, run_underlying ht, run_underlying htn, sizeOf, typeInfo, zeroValue, hi, hz, hsize, hby, asInt, asIntOf, hw, hneg, h48i, hm, hroom, Addr.add_lit, zeroCells_u8, hst]
      refine ⟨_, _, hrun, ⟨hlen, .inr ⟨g, cap, _, rfl, hbg, setRow_heap w g cur _ e _ hg, hroom, hcm, ?_, ?_⟩⟩, ⟨rfl, rfl, rfl, by simp, fun j _ hj => setRow_other w g j _ (fun e => hj (by simp [Value.ownBlock, e]))⟩⟩
      · simp
        omega
      · rw [← hlen, show cur.toList.take k = xs from by rw [← htake, Nat.mul_one]]
        exact List.take_left
    · have hfo := run_firstCells_some (P := P) w.drew i.size k ⟨g, 0, none⟩ k cap xs (by rw [hsize]; exact hown.1) (by simpa using hown.cells (g := g) rfl)
      have hm : n ≠ 0 := by omega
      have hfit := growslice_fits (need := k + n) (old := cap) (bytes := 1) (by omega) (by omega)
      have h48' : ¬ (281474976710656 < Builtin.nextslicecap (k + n) cap) := by omega
      have h63' : ¬ (9223372036854775807 < ((k : Int) + (n : Int))) := by omega
      have hgr := grown cap (by omega) (Value.ownBlock (.slice (some ⟨g, 0, none⟩) k cap))
      refine ⟨_, _, ?_, hgr.1, hgr.2⟩
      simp only [hsize] at hfo
      simp [Builtin.append_, run_underlying ht, run_underlying htn, sizeOf, typeInfo, zeroValue, hi, hz, hsize, hby, asInt, asIntOf, hw, hneg, h48i, hm, hroom, h63', h48', Question.forced, hfo, newRow, grownCap]

theorem app_zeros {ops : Array Oper} {rest : List Oper} {o : Oper} {a : Act} {Q : Exit → Act → World → Prop} (hgd : o.guard = none) (s x : Operand)
    (ho : o.op = .call { callee := .builtin .append, args := #[s, x], argTypes := #[22, 3] }) {w0 w : World} (hf : Fr0 w0 w) {v1 : Value} {L1 : List UInt8} {k1 n : Nat}
    (h1 : w.ownsRow w0.heap.size 5 1 v1 k1 (byts L1)) (hs : a.eval s = v1) (hx : a.eval x = .int .i64 n) (hl : k1 + n ≤ 100000000)
    (h : ∀ A c w', w'.ownsRow w0.heap.size 5 1 (.slice A (k1 + n) c) (k1 + n) (byts (L1 ++ List.replicate n 0)) → Fr0 w0 w' → wpList Try.prog ops Q rest (a.put o.dst (.slice A (k1 + n) c)) w') :
    wpList Try.prog ops Q (o :: rest) a w := by
  obtain ⟨i0, hi, hz0, hz1, hz2⟩ := info_parts infoU8
  obtain ⟨v', w', hr, hown, hgrow⟩ := run_app_zeros (P := Try.prog) w w0.heap.size 22 3 o.type 5 i0 .i64 Try.underlying22 Try.underlying3 hi hz0 hz1 hz2 v1 k1 (byts L1) h1 n hl hf.size
  refine Lib.wpList_append_run _ hgd s x _ _ ho _ _ hs hx _ _ hr ?_
  rw [← byts_zeros, ← byts_app] at hown
  obtain ⟨A, c, rfl, -, -, -⟩ := own_form hown
  exact h A c w' hown (Fr.grown hf hgrow (fun j hj => .inr (own_lt' h1 j hj).1))
end Go.Proofs.Ytjkcbklgddnbdaa
namespace Go.Proofs.Ytjkcbklgddnbdaa
open Go.RowKit
variable {P : Program} {ops : Array Oper} {o : Oper} {a : Act} {w : World} {K : Act → World → Prop} {Q : Exit → Act → World → Prop} {rest : List Oper}
theorem wp_built_blk (t e : TypeId) (n : Nat) (parts : Array (Nat × Operand)) (ho : o.op = .buildSlice t n parts) (cells : Array Value)
    (hrun : ∀ W : World, (Instr.buildSlice t n (parts.map fun (i, x) => (i, a.eval x))).run P W = .ok (.slice (some ⟨W.heap.size, 0, none⟩) n n) (W.alloc (.cells cells e)))
    (h : ∀ g W1, Blk W1 g cells e → Fr0 w W1 → w.heap.size ≤ g → K (a.put o.dst (.slice (some ⟨g, 0, none⟩) n n)) W1) : Oper.wp P o a w K Q := by
  unfold Oper.wp execOp
  simp only [ho, Sem.run_bind, Sem.run_pure, Result.andThen_ok, hrun]
  exact h _ _ (Blk.new w cells e) ((Fr0.refl w).alloc _) (Nat.le_refl _)
theorem list_built_blk (hgd : o.guard = none) (t e : TypeId) (n : Nat) (parts : Array (Nat × Operand)) (ho : o.op = .buildSlice t n parts) (cells : Array Value)
    (hrun : ∀ W : World, (Instr.buildSlice t n (parts.map fun (i, x) => (i, a.eval x))).run P W = .ok (.slice (some ⟨W.heap.size, 0, none⟩) n n) (W.alloc (.cells cells e)))
    (h : ∀ g W1, Blk W1 g cells e → Fr0 w W1 → w.heap.size ≤ g → wpList P ops Q rest (a.put o.dst (.slice (some ⟨g, 0, none⟩) n n)) W1) : wpList P ops Q (o :: rest) a w :=
  wpList_plain hgd fun _ hK => wp_built_blk t e n parts ho cells hrun (fun g W1 h1 h2 h3 => hK _ _ (h g W1 h1 h2 h3))
theorem infoB2 : (Try.prog.info? 5).map (fun i => (i.zero, i.size, i.bytes)) = some (some (.int .u8 0), 1, 1) := by kernel_rfl
/-- The block of a row of the call's own. -/
def ownB (v : Value) (k : Nat) : Prop := v.ownBlock = some k
/-- append of bytes onto a row of the call's own. -/
theorem wp_append_own {base : Nat} {v v2 : Value} {n : Nat} {d e : List UInt8} (s x : Operand) (ho : o.op = .call { callee := .builtin .append, args := #[s, x], argTypes := #[22, 22] })
    (hb : base ≤ w.heap.size) (hown : w.ownsRow base 5 1 v n (byts d)) (hs : a.eval s = v) (hr : RdB w v2 e) (hx : a.eval x = v2) (hl : n + e.length ≤ 100000000)
    (hK : ∀ A c w', w'.ownsRow base 5 1 (.slice A (n + e.length) c) (n + e.length) (byts (d ++ e)) → Fr (ownB v) w w' → K (a.put o.dst (.slice A (n + e.length) c)) w') :
    Oper.wp Try.prog o a w K Q := by
  obtain ⟨i, hi, hz0, hz1, hz2⟩ := info_parts infoB2
  obtain ⟨A2, c2, rfl, hnc, hcm, hnone⟩ := hr.form
  have hrun : ∃ A c w', (Builtin.append_ #[22, 22] o.type #[v, .slice A2 e.length c2]).run Try.prog w = .ok (.slice A (n + e.length) c) w' ∧ w'.ownsRow base 5 1 (.slice A (n + e.length) c) (n + e.length) (byts d ++ byts e) ∧ Fr (ownB v) w w' := by
    cases A2 with
    | some ad =>
      obtain ⟨v', w', hrun, hown', hgrow, -⟩ := run_append_own (P := Try.prog) w base 22 o.type 5 i _ 1 1 Try.underlying22 hi hz0 hz1 hz2 rfl (by decide) v n (byts d) hown ad e.length c2 (byts e) (byts_len e) (fun j u hu => Rd.news hr j u hu) (byts_one e) (by unfold maxLen; omega) (by omega) hb
      obtain ⟨A', c', rfl, -, -, -⟩ := own_form hown'
      exact ⟨A', c', w', hrun, hown', Fr.grown (Fr.refl _ _) hgrow (fun j hj => .inl hj)⟩
    | none =>
      have hc : c2 = 0 := hnone rfl
      have hm : e = [] := List.eq_nil_of_length_eq_zero (by omega)
      subst hc hm
      have hrun := run_append_none (P := Try.prog) w base 22 22 o.type 5 5 i Try.underlying22 Try.underlying22 hi v n (byts d) (by rw [hz1]; exact hown) 0
      obtain ⟨A', c', rfl, -, -, -⟩ := own_form hown
      exact ⟨A', c', w, hrun, by simpa [byts] using hown, Fr.refl _ _⟩
  obtain ⟨A, c, w', hrun, hown', hf⟩ := hrun
  unfold Oper.wp execOp
  simp only [ho, resolve, invoke, builtin, Sem.run_bind, Sem.run_pure, Result.andThen_ok, List.map_toArray, List.map_cons, List.map_nil, hs, hx, hrun]
  refine hK A c w' ?_ hf
  rw [byts_app]
  exact hown'
/-- append of so many noughts. -/
theorem wp_append_zeros {base : Nat} {v : Value} {n m : Nat} {d : List UInt8} (s x : Operand) (ho : o.op = .call { callee := .builtin .append, args := #[s, x], argTypes := #[22, 3] })
    (hb : base ≤ w.heap.size) (hown : w.ownsRow base 5 1 v n (byts d)) (hs : a.eval s = v) (hx : a.eval x = .int .i64 m) (hl : n + m ≤ 100000000)
    (hK : ∀ A c w', w'.ownsRow base 5 1 (.slice A (n + m) c) (n + m) (byts (d ++ List.replicate m 0)) → Fr (ownB v) w w' → K (a.put o.dst (.slice A (n + m) c)) w') :
    Oper.wp Try.prog o a w K Q := by
  obtain ⟨i, hi, hz0, hz1, hz2⟩ := info_parts infoB2
  obtain ⟨v', w', hrun, hown', hgrow⟩ := run_app_zeros (P := Try.prog) w base 22 3 o.type 5 i .i64 Try.underlying22 Try.underlying3 hi hz0 hz1 hz2 v n (byts d) hown m hl hb
  obtain ⟨A, c, rfl, -⟩ := own_form hown'
  unfold Oper.wp execOp
  simp only [ho, resolve, invoke, builtin, Sem.run_bind, Sem.run_pure, Result.andThen_ok, List.map_toArray, List.map_cons, List.map_nil, hs, hx, hrun]
  refine hK A c w' ?_ (Fr.grown (Fr.refl _ _) hgrow (fun j hj => .inl hj))
  rw [byts_app, byts_zeros]
  exact hown'
end Go.Proofs.Ytjkcbklgddnbdaa
namespace Go.Proofs.Ytjkcbklgddnbdaa
open Go.RowKit


set_option maxHeartbeats 400000 in
theorem bytesClone_any {v : Value} {d : List UInt8} {w : World} (h : RdB w v d) (hn : d.length ≤ 100000000) :
    Calls Try.prog 30 #[v] w fun e w' => ∃ v', e = .returned v' ∧ w'.ownsRow w.heap.size 5 1 v' d.length (byts d) ∧ Fr0 w w' := by
  obtain ⟨A, c, rfl, hnc, hcm, hnone⟩ := h.form
  obtain ⟨i0, hiW, hz0, hz1, hz2⟩ := info_parts infoU8
  have qT : ∀ (w : World) (a : Option Addr) (n c n' c' : Nat), (binOp .eql 22 (.slice a n c) (.slice none n' c')).run Try.prog w = .ok (.bool a.isNone) w := fun w a n c n' c' => Lib.run_eql_slice_nil w _ _ a n c n' c' Try.underlying22
  cases A with
  | none =>
    obtain rfl : c = 0 := hnone rfl
    have hd : d = [] := List.eq_nil_of_length_eq_zero (by omega)
    subst hd
    go_enter Try.func30, Try.ntmps30
    go_wp2
    go_ret
    exact ⟨_, rfl, World.ownsRow_nil _ _ _ _, Fr0.refl _⟩
  | some a =>
    have hown : (w.alloc (.cells #[] 5)).ownsRow w.heap.size 5 1 (.slice (some ⟨w.heap.size, 0, none⟩) 0 0) 0 [] := own_empty (heap_alloc_new w _) (Nat.le_refl _)
    have hnews := (Rd.fr0 h (Fr0.alloc (Fr0.refl w) (.cells #[] 5))).news
    clear h
    go_enter Try.func30, Try.ntmps30
    go_wp2_with (at_builtin; refine wpList_append_own _ rfl _ _ 22 rfl w.heap.size 5 i0 (.int .u8 0) 1 1 Try.underlying22 hiW hz0 hz1 hz2 rfl (by decide) _ _ _ rfl hown a d.length c (byts d) rfl (byts_len d) hnews (byts_one d) (by unfold maxLen; omega) (by omega) (by simp) ?_; intro v' w1 hown' hgrow _)
    go_ret
    refine ⟨_, rfl, ?_, ?_⟩
    · simpa using hown'
    · exact Fr.grown (Fr.alloc (Fr0.refl w) _) hgrow (fun k hk => .inr (by cases hk; exact Nat.le_refl _))

theorem and127 (n : Nat) (hn : n < 18446744073709551616) : bits .and .u64 (n : Int) 127 = (n : Int) % 128 := by
  have h := u64_and_nat n 127 hn (by omega)
  have e : n &&& 127 = n % 128 := Nat.and_two_pow_sub_one_eq_mod n 7
  rw [e] at h
  have h' : bits .and .u64 (n : Int) 127 = ((n % 128 : Nat) : Int) := h
  rw [h']
  omega
theorem or128 (m : Nat) (hm : m < 128) : bits .or .u8 (m : Int) 128 = (m : Int) + 128 := by
  have h := u8_or_nat m 128 (by omega) (by omega)
  have e : m ||| 128 = 128 + m := by rw [Nat.or_comm]; exact nat_join 7 128 m (by decide) (by omega)
  rw [e] at h
  have h' : bits .or .u8 (m : Int) 128 = ((128 + m : Nat) : Int) := h
  rw [h']
  omega

theorem own_baseW {w : World} {t : TypeId} {size n b b' : Nat} {v : Value} {xs : List Value} (h : w.ownsRow b t size v n xs) (hb : b' ≤ b) : w.ownsRow b' t size v n xs :=
  ⟨h.1, h.2.imp id (by rintro ⟨g, cap, cur, h1, h2, h3⟩; exact ⟨g, cap, cur, h1, Nat.le_trans hb h2, h3⟩)⟩
theorem num_size (w : World) : (sizeOf 5).run Try.prog w = .ok 1 w := by kernel_rfl
theorem num_slice (w : World) (a : Addr) (k : Nat) (hk : k < 10) (i : Int) (hiW : i = k) :
    (Instr.sliceAt 60 (.pointer (some a)) (some (.int .i64 i)) none none).run Try.prog w = .ok (.slice (some (a.add k)) (10 - k) (10 - k)) w := by
  subst hiW
  have hl : Try.prog.arrayLen 60 = 10 := by kernel_rfl
  have he : Try.prog.elem 60 = 5 := by kernel_rfl
  rw [run_sliceAt_array_l (w := w) 60 a (by rw [hl, he]; exact Try.underlying60) .i64 (k : Int) (by omega) (by rw [hl]; omega), he, hl, num_size w]
  simp [Result.andThen, slicedAt]
  omega
theorem num_rest {w : World} {b : Nat} {pre : List Value} {suf : List UInt8} {t : TypeId} (h : Blk w b (pre ++ byts suf).toArray t) (hl : pre.length + suf.length = 10) (h0 : 0 < suf.length) :
    RdB w (.slice (some ⟨b, 10 - suf.length, none⟩) suf.length suf.length) suf := by
  unfold RdB
  refine ⟨by rw [byts_len, Nat.mul_one], ⟨_, _, rfl, Nat.le_refl _, by unfold maxLen; omega, fun h => by cases h⟩, fun _ => ⟨b, _, _, _, _, _, rfl, h, fun j u hu => ?_⟩⟩
  rw [List.getElem?_toArray, List.getElem?_append_right (by omega), show 10 - suf.length + j - pre.length = j by omega]
  exact hu

/-- What the loop of Num carries: what is left of the number, the bytes laid, the array. -/
def NumInv (n : Nat) (w wr : World) (m : Nat) (suf : List UInt8) : Prop :=
  m < 18446744073709551616 ∧ 0 < suf.length ∧ hiW m ++ suf = form n ∧ suf.length ≤ 10 ∧ Fr0 w wr ∧ ∃ pre : List Value, pre.length + suf.length = 10 ∧ Blk wr w.heap.size (pre ++ byts suf).toArray 60

set_option maxHeartbeats 400000 in
theorem wireNum_any (n : Nat) (hn : n < 18446744073709551616) (w : World) :
    Calls Try.prog 20 #[.int .u64 (n : Int)] w fun e w' => ∃ v, e = .returned v ∧ w'.ownsRow w.heap.size 5 1 v (form n).length (byts (form n)) ∧ Fr0 w w' := by
  have ha := and127 n hn
  have h2 : (n : Int) % 128 % 256 = (n : Int) % 128 := by omega
  have hx : ((UInt8.ofNat (n % 128)).toNat : Int) = (n : Int) % 128 := by rw [u8_of _ (by omega)]; omega
  have Hx := Lib.hid hx
  clear hx
  go_enter Try.func20, Try.ntmps20
  go_wp2_with fail
  clear ha h2
  go_loopw [0, 4] (fun v0 v4 wr => ∃ (m : Nat) (suf : List UInt8), v0 = .int .u64 (m : Int) ∧ v4 = .int .i64 (10 - suf.length) ∧ NumInv n w wr m suf) (fun v0 _ _ => (intOf v0).toNat)
  case atStart =>
    refine ⟨n / 128, [UInt8.ofNat (n % 128)], by simp, rfl, by omega, by simp, rfl, by simp, (Fr0.refl w).alloc _, List.replicate 9 (.int .u8 0), rfl, ?_⟩
    have e : (List.replicate 9 (Value.int .u8 0) ++ byts [UInt8.ofNat (n % 128)]).toArray = #[.int .u8 0, .int .u8 0, .int .u8 0, .int .u8 0, .int .u8 0, .int .u8 0, .int .u8 0, .int .u8 0, .int .u8 0, .int .u8 ((n : Int) % 128)] := by
      simp only [byts, List.map_cons, List.map_nil, Hx.out]; rfl
    rw [e]
    exact Blk.new _ _ _
  case round =>
    obtain ⟨m, suf, rfl, rfl, hm, hs0, hform, hs10, hf, pre, hpre, hblk⟩ := hrel
    by_cases h0 : 0 < m
    · have hlen := form_len_le hn
      rw [← hform, List.length_append, hi_pos h0, List.length_append] at hlen
      simp only [List.length_singleton] at hlen
      obtain ⟨pre', u, rfl⟩ : ∃ pre' u, pre = pre' ++ [u] := ⟨pre.dropLast, pre.getLast (by intro e; subst e; simp at hpre; omega), (List.dropLast_concat_getLast _).symm⟩
      have hp' : pre'.length = 9 - suf.length := by rw [List.length_append] at hpre; simp at hpre; omega
      have hat : (pre' ++ [u] ++ byts suf).toArray[9 - suf.length]? = some u := by
        rw [List.getElem?_toArray, List.append_assoc, List.getElem?_append_right (by omega), hp']; simp
      have cB : wr.cell? ⟨w.heap.size, 9 - suf.length, none⟩ = some u := hblk.cell _ hat
      have fB : wr.frozen? ⟨w.heap.size, 9 - suf.length, none⟩ = false := hblk.free _
      have ha := and127 m hm
      have h2 : (m : Int) % 128 % 256 = (m : Int) % 128 := by omega
      have ho : bits .or .u8 ((m : Int) % 128) 128 = (m : Int) % 128 + 128 := by
        have := or128 (m % 128) (by omega)
        rwa [show ((m % 128 : Nat) : Int) = (m : Int) % 128 from by omega] at this
      have hidx : ((10 : Int) - suf.length - 1).toNat = 9 - suf.length := by omega
      have hi0 : (0 : Int) ≤ (10 : Int) - suf.length - 1 := by omega
      have hi1 : (10 : Int) - suf.length - 1 < 10 := by omega
      have hw : IntKind.i64.wrap ((10 : Int) - suf.length - 1) = (10 : Int) - suf.length - 1 := IntWalk.i64_in _ (by omega)
      have HB := Lib.hid hblk
      clear hblk hat
      go_wp2_with fail
      clear ha h2 ho hidx hi0 hi1 hw cB fB
      go_roundw
      refine ⟨m / 128, UInt8.ofNat (128 + m % 128) :: suf, by simp, by simp; omega, Nat.lt_of_le_of_lt (Nat.div_le_self m 128) hm, by simp, ?_, by simp; omega, ?_, pre', by simp; omega, ?_⟩
      · rw [← hform, hi_pos h0, List.append_assoc]; rfl
      · exact Fr.setCell hf (.inr (Nat.le_refl _)) _
      · have HS := HB.out.set (9 - suf.length) (.int .u8 ((m : Int) % 128 + 128))
        have e : ((pre' ++ [u] ++ byts suf).toArray.setIfInBounds (9 - suf.length) (.int .u8 ((m : Int) % 128 + 128))) = (pre' ++ byts (UInt8.ofNat (128 + m % 128) :: suf)).toArray := by
          have hb : byts (UInt8.ofNat (128 + m % 128) :: suf) = Value.int .u8 ((m : Int) % 128 + 128) :: byts suf := by
            simp only [byts, List.map_cons]
            rw [u8_of _ (by omega)]
            congr 2; omega
          rw [hb, ← hp', List.append_assoc]
          simp
        rw [e] at HS
        exact HS
      · show ((m : Int) / 128).toNat < (m : Int).toNat
        omega
    · have : m = 0 := by omega
      subst this
      have k0 : (0 : Int) ≤ 10 - (suf.length : Int) := by omega
      have k1 : 10 - (suf.length : Int) ≤ 10 := by omega
      have k2 : (10 - (suf.length : Int)).toNat = 10 - suf.length := by omega
      have hs : form n = suf := by rw [← hform, hi_zero]; rfl
      have hlt : 10 - suf.length < 10 := by omega
      have rS := num_slice wr ⟨w.heap.size, 0, none⟩ (10 - suf.length) hlt _ (by omega : 10 - (suf.length : Int) = ((10 - suf.length : Nat) : Int))
      rw [show 10 - (10 - suf.length) = suf.length by omega] at rS
      have hrd : RdB wr (.slice (some ⟨w.heap.size, 10 - suf.length, none⟩) suf.length suf.length) suf := num_rest hblk hpre hs0
      clear hblk
      go_wp2_with fail
      refine (bytesClone_any hrd (by omega)).mono ?_
      rintro e w' ⟨v, rfl, hown, hf'⟩
      go_wp2_with fail
      go_ret
      rw [hs]
      exact ⟨v, rfl, own_baseW hown hf.size, hf.trans hf'⟩
end Go.Proofs.Ytjkcbklgddnbdaa
set_option linter.unusedSimpArgs false
namespace Go.Proofs.Ytjkcbklgddnbdaa
open Go.RowKit

def cCode : List UInt8 := [99, 111, 100, 101]
def cMark : List UInt8 := [109, 97, 114, 107]
/-- A member's key, as its bytes. -/
def keyT (master : List UInt8) (m e : Nat) : List UInt8 := (macN master (cCode ++ (form m ++ form e))).take 16 ++ macN master (cMark ++ (form m ++ form e))
theorem key_ret {fn : Func} {tmps : Array Value} {W : World} {p u : Tmp} {g : Nat} {cs : Array Value} {v : Value} (h : fn.results = #[.cell p 34, .tmp u]) (hg : Blk W g cs 34) (hs : (Try.prog.info? 34).map (·.size) = some cs.size) (h2 : tmps.getD p undef = .pointer (some ⟨g, 0, none⟩)) (h3 : tmps.getD u undef = v) :
    (results fn tmps).run Try.prog W = .ok (.tuple #[.agg cs, v]) W := by
  rw [results_cell_tmp h, h2, h3]
  have hl := run_loadVar_row (P := Try.prog) W g 34 34 cs (0, 0) _ hg Try.underlying34 rfl hs
  simp [asAddr, Result.andThen, hl]
/-- The marks of a word, of two numbers behind it, handed on as three pieces. -/
theorem mof_three {W : World} {g : Nat} {kv v0 v1 v2 : Value} {key d0 d1 d2 : List UInt8} (hk : RdB W kv key) (hkl : key.length ≤ 900000) (h0 : RdB W v0 d0) (h1 : RdB W v1 d1) (h2 : RdB W v2 d2) (hl : d0.length + d1.length + d2.length ≤ 800000) (hb : Blk W g #[v0, v1, v2] 22) :
    Calls Try.prog 8 #[kv, .slice (some ⟨g, 0, none⟩) 3 3] W fun e w' => e = .returned (.agg (byts (macN key (d0 ++ (d1 ++ d2)))).toArray) ∧ Fr0 W w' := by
  have h := mof_any (w := W) (kv := kv) (key := key) (lv := .slice (some ⟨g, 0, none⟩) 3 3) (ds := [d0, d1, d2]) (vs := [v0, v1, v2]) hk hkl
    ⟨rfl, ⟨_, _, rfl, by simp, by unfold maxLen; simp, fun h => by cases h⟩, fun _ => ⟨g, 0, 3, _, _, _, rfl, hb, fun j u hu => by simpa using hu⟩⟩
    (fun i hi => by
      simp at hi
      rcases (by omega : i = 0 ∨ i = 1 ∨ i = 2) with rfl | rfl | rfl
      · exact ⟨v0, rfl, h0⟩
      · exact ⟨v1, rfl, h1⟩
      · exact ⟨v2, rfl, h2⟩)
  have h3 := h (by simp; omega)
  rw [show ([d0, d1, d2] : List (List UInt8)).flatten = d0 ++ (d1 ++ d2) from by simp] at h3
  exact h3
theorem zK_run (W : World) : (Instr.alloc 34 true (.tuple #[])).run Try.prog W = .ok (.pointer (some ⟨W.heap.size, 0, none⟩)) (W.alloc (.cells zK 34)) := by kernel_rfl
theorem key_size (l : List UInt8) (h : l.length = 48) : (Try.prog.info? 34).map (·.size) = some (byts l).toArray.size := by rw [byts_size, h]; kernel_rfl
theorem keyT_len (master : List UInt8) (m e : Nat) : (keyT master m e).length = 48 := by
  unfold keyT
  rw [List.length_append, List.length_take, macN_len, macN_len]
  rfl
set_option maxHeartbeats 4000000 in
set_option maxRecDepth 10000 in
theorem der_bad {v : Value} {m e : Int} {w : World} (hb : m < 1 ∨ 8 < m ∨ e < 1 ∨ 1048576 < e) : Calls Try.prog 12 #[v, .int .i64 m, .int .i64 e] w fun x w' => x = .returned (.tuple #[.agg zK, .int .i64 2]) ∧ Fr0 w w' := by
  have HRUN := Lib.hid (fun W => zK_run W)
  have HIK := Lib.hid (show (Try.prog.info? 34).map (·.size) = some zK.size from key_size _ (by simp))
  have HBK := Lib.hid key_zero
  have hak : zK.all (·.oneCell') = true := byts_all _
  obtain ⟨zk, hzk⟩ : ∃ z, z = zK := ⟨_, rfl⟩
  rw [← hzk] at HRUN HIK HBK hak ⊢
  clear hzk
  by_cases h1 : m < 1
  · clear hb
    go_enter Try.func12, Try.ntmps12
    go_wp2_with (first
      | (refine list_alloc_blk rfl 34 rfl zk HRUN.out ?_; intro g6 w1 hB hF hl; have B1 := Lib.hid hB; have F1 := Lib.hid hF; have L6 := Lib.hid hl; clear hB hF hl)
      | (refine list_build rfl 34 _ rfl zk (by simp [Act.eval, Act.put]; exact HBK.out) ?_)
      | (refine list_store_blk rfl 34 _ _ rfl g6 zk rfl rfl 34 zk B1.out HIK.out rfl hak ?_; intro w2 hB hF))
    refine bodyPost_ret (v := .tuple #[.agg zk, .int .i64 2]) (key_ret rfl hB HIK.out rfl rfl) rfl ⟨rfl, Fr0.new F1.out hF L6.out⟩
  by_cases h2 : 8 < m
  · clear hb
    go_enter Try.func12, Try.ntmps12
    go_wp2_with (first
      | (refine list_alloc_blk rfl 34 rfl zk HRUN.out ?_; intro g6 w1 hB hF hl; have B1 := Lib.hid hB; have F1 := Lib.hid hF; have L6 := Lib.hid hl; clear hB hF hl)
      | (refine list_build rfl 34 _ rfl zk (by simp [Act.eval, Act.put]; exact HBK.out) ?_)
      | (refine list_store_blk rfl 34 _ _ rfl g6 zk rfl rfl 34 zk B1.out HIK.out rfl hak ?_; intro w2 hB hF))
    refine bodyPost_ret (v := .tuple #[.agg zk, .int .i64 2]) (key_ret rfl hB HIK.out rfl rfl) rfl ⟨rfl, Fr0.new F1.out hF L6.out⟩
  by_cases h3 : e < 1
  · clear hb
    go_enter Try.func12, Try.ntmps12
    go_wp2_with (first
      | (refine list_alloc_blk rfl 34 rfl zk HRUN.out ?_; intro g6 w1 hB hF hl; have B1 := Lib.hid hB; have F1 := Lib.hid hF; have L6 := Lib.hid hl; clear hB hF hl)
      | (refine list_build rfl 34 _ rfl zk (by simp [Act.eval, Act.put]; exact HBK.out) ?_)
      | (refine list_store_blk rfl 34 _ _ rfl g6 zk rfl rfl 34 zk B1.out HIK.out rfl hak ?_; intro w2 hB hF))
    refine bodyPost_ret (v := .tuple #[.agg zk, .int .i64 2]) (key_ret rfl hB HIK.out rfl rfl) rfl ⟨rfl, Fr0.new F1.out hF L6.out⟩
  · have h4 : 1048576 < e := by omega
    clear hb
    go_enter Try.func12, Try.ntmps12
    go_wp2_with (first
      | (refine list_alloc_blk rfl 34 rfl zk HRUN.out ?_; intro g6 w1 hB hF hl; have B1 := Lib.hid hB; have F1 := Lib.hid hF; have L6 := Lib.hid hl; clear hB hF hl)
      | (refine list_build rfl 34 _ rfl zk (by simp [Act.eval, Act.put]; exact HBK.out) ?_)
      | (refine list_store_blk rfl 34 _ _ rfl g6 zk rfl rfl 34 zk B1.out HIK.out rfl hak ?_; intro w2 hB hF))
    refine bodyPost_ret (v := .tuple #[.agg zk, .int .i64 2]) (key_ret rfl hB HIK.out rfl rfl) rfl ⟨rfl, Fr0.new F1.out hF L6.out⟩
set_option maxHeartbeats 4000000 in
set_option maxRecDepth 10000 in
theorem der_good {v : Value} {master : List UInt8} {w : World} (h : RdB w v master) (hl : master.length ≤ 900000) {m e : Nat} (m1 : 1 ≤ m) (m8 : m ≤ 8) (e1 : 1 ≤ e) (e8 : e ≤ 1048576) :
    Calls Try.prog 12 #[v, .int .i64 m, .int .i64 e] w fun x w' => x = .returned (.tuple #[.agg (byts (keyT master m e)).toArray, .int .i64 0]) ∧ Fr0 w w' := by
  obtain ⟨Av, cv, rfl, -, -, -⟩ := h.form
  have HRUN := Lib.hid (fun W => zK_run W)
  have HR32 := Lib.hid (fun W => z32_run W)
  have HN1 := Lib.hid (fun W => wireNum_any m (by omega) W)
  have HN2 := Lib.hid (fun W => wireNum_any e (by omega) W)
  have lf1 := form_len_le (n := m) (by omega)
  have lf2 := form_len_le (n := e) (by omega)
  have hcv := fun (w : World) (C : Array Value) (n c : Nat) => Lib.run_convert_bytes_const (P := Try.prog) w 22 5 C n c Try.underlying22 Try.underlying5
  have HMM := Lib.hid (fun (W : World) (g : Nat) (v0 v1 v2 : Value) (d0 : List UInt8) (hf : Fr0 w W) (hd : d0.length ≤ 4) (h0 : RdB W v0 d0) (h1 : RdB W v1 (form m)) (h2 : RdB W v2 (form e)) (hb : Blk W g #[v0, v1, v2] 22) => mof_three (h.fr0 hf) hl h0 h1 h2 (by omega) hb)
  have HKE := Lib.hid (show keyT master m e = (macN master (cCode ++ (form m ++ form e))).take 16 ++ macN master (cMark ++ (form m ++ form e)) from rfl)
  have hik := key_size (keyT master m e) (keyT_len master m e)
  have hok : zK.size = (byts (keyT master m e)).toArray.size := by rw [byts_size, keyT_len]; rfl
  have hak := byts_all (keyT master m e)
  have l1 := macN_len master (cCode ++ (form m ++ form e))
  have l2 := macN_len master (cMark ++ (form m ++ form e))
  obtain ⟨cd, hcd⟩ : ∃ d, d = macN master (cCode ++ (form m ++ form e)) := ⟨_, rfl⟩
  obtain ⟨mk, hmk⟩ : ∃ d, d = macN master (cMark ++ (form m ++ form e)) := ⟨_, rfl⟩
  rw [← hcd] at HKE l1
  rw [← hmk] at HKE l2
  have HCD := Lib.hid hcd
  have HMK0 := Lib.hid hmk
  have l16 : (cd.take 16).length = 16 := by rw [List.length_take, l1]; rfl
  have HBK := Lib.hid (key_built l16 l2)
  rw [← HKE.out] at HBK
  have HI16 := Lib.hid (show (Try.prog.info? 32).map (·.size) = some (byts (cd.take 16)).length from by rw [byts_len, l16]; kernel_rfl)
  have hi32 := dig_info l1
  have ho32 := z32_size l1
  have ha32 := byts_all cd
  obtain ⟨cd16, hcd16⟩ : ∃ d, d = cd.take 16 := ⟨_, rfl⟩
  rw [← hcd16] at HI16 HBK
  have H16 := Lib.hid hcd16
  have HL1 := Lib.hid l1
  obtain ⟨kA, hkA⟩ : ∃ s, s = (byts (keyT master m e)).toArray := ⟨_, rfl⟩
  rw [← hkA] at HBK hik hok hak
  have HKA := Lib.hid hkA
  obtain ⟨sm, hsm⟩ : ∃ s, s = (byts mk).toArray := ⟨_, rfl⟩
  rw [← hsm] at HBK
  have HSM := Lib.hid hsm
  obtain ⟨s6, hs6⟩ : ∃ s, s = (byts cd16).toArray := ⟨_, rfl⟩
  obtain ⟨sc, hsc⟩ : ∃ s, s = (byts cd).toArray := ⟨_, rfl⟩
  rw [← hsc] at hi32 ho32 ha32
  have HSC := Lib.hid hsc
  obtain ⟨zk, hzk⟩ : ∃ z, z = zK := ⟨_, rfl⟩
  obtain ⟨z32, hz32⟩ : ∃ z, z = z32A := ⟨_, rfl⟩
  rw [← hzk] at HRUN hok
  rw [← hz32] at HR32 ho32
  have HIK := Lib.hid hik
  have HOK := Lib.hid hok
  have HIC := Lib.hid hi32
  have HOC := Lib.hid ho32
  obtain ⟨nv, hnv⟩ : ∃ n, n = master.length := ⟨_, rfl⟩
  rw [← hnv] at HMM ⊢
  obtain ⟨n1, hn1⟩ : ∃ n, n = (form m).length := ⟨_, rfl⟩
  obtain ⟨n2, hn2⟩ : ∃ n, n = (form e).length := ⟨_, rfl⟩
  have HF1 := Lib.hid hn1
  have HF2 := Lib.hid hn2
  clear h l1 l2 l16 hcd hmk hcd16 hik hok hi32 ho32 hkA hsm hs6 s6 hsc hzk hz32 hnv hn1 hn2 lf1 lf2 hl
  go_enter Try.func12, Try.ntmps12
  go_upto_region 5 with (first
    | (refine list_alloc_blk rfl 34 rfl zk HRUN.out ?_; intro g6 w1 hB hF hl; have B1 := Lib.hid hB; have F1 := Lib.hid hF; have L6 := Lib.hid hl; clear hB hF hl)
    | (have _q := N1; go_at_call 20; refine (HN2.out _).mono ?_; rintro x w3 ⟨v2, rfl, ho, hf⟩; obtain ⟨A2, c2, rfl, -, -, -⟩ := own_form ho; have N1b := Lib.hid ((N1.out).fr0 hf); have N2 := Lib.hid (RdB.of_own ho); have B3 := Lib.hid ((B2.out).fr0 hf); have F3 := Lib.hid (Fr0.trans F2.out hf); rw [← HF2.out] at N2 ⊢; clear ho hf)
    | (go_at_call 20; refine (HN1.out _).mono ?_; rintro x w2 ⟨v1, rfl, ho, hf⟩; obtain ⟨A1, c1, rfl, -, -, -⟩ := own_form ho; have N1 := Lib.hid (RdB.of_own ho); have B2 := Lib.hid ((B1.out).fr0 hf); have F2 := Lib.hid (Fr0.trans F1.out hf); rw [← HF1.out] at N1 ⊢; clear ho hf)
    | (refine list_built_blk rfl 23 22 _ _ rfl #[.slice (some ⟨w3.heap.size, 0, none⟩) 4 4, .slice A1 n1 c1, .slice A2 n2 c2] (fun W => by go_simp; try rfl) ?_; intro gb w4 hB hf hg; have hlit := lit_at (w := w3) rfl cCode rfl (by decide) (4, 5); have fa := (Fr0.refl w3).alloc (.cells (byts cCode).toArray 5 (4, 5)); have G4 := Lib.hid hB; have C4 := Lib.hid (hlit.fr0 hf); have N14 := Lib.hid ((N1b.out).fr0 (Fr0.trans fa hf)); have N24 := Lib.hid ((N2.out).fr0 (Fr0.trans fa hf)); have B4 := Lib.hid ((B3.out).fr0 (Fr0.trans fa hf)); have F4 := Lib.hid (Fr0.trans F3.out (Fr0.trans fa hf)); clear hB hf hg hlit fa)
    | (go_at_call 8; refine (HMM.out _ _ _ _ _ cCode F4.out (by decide) C4.out N14.out N24.out G4.out).mono ?_; rintro x w5 ⟨he, hf⟩; rw [← HCD.out, ← HSC.out] at he; subst he; have N15 := Lib.hid ((N14.out).fr0 hf); have N25 := Lib.hid ((N24.out).fr0 hf); have B5 := Lib.hid ((B4.out).fr0 hf); have F5 := Lib.hid (Fr0.trans F4.out hf); clear hf)
    | (refine list_alloc_blk rfl 25 rfl z32 HR32.out ?_; intro g10 w6 hB hF hl; have C6 := Lib.hid hB; have N16 := Lib.hid ((N15.out).fr0 hF); have N26 := Lib.hid ((N25.out).fr0 hF); have B6 := Lib.hid ((B5.out).fr0 hF); have F6 := Lib.hid (Fr0.trans F5.out hF); have L10 := Lib.hid hl; clear hB hF hl)
    | (refine list_store_blk rfl 25 _ _ rfl g10 sc rfl rfl 25 z32 C6.out HIC.out HOC.out ha32 ?_; intro w7 hB hF; have C7 := Lib.hid hB; have N17 := Lib.hid ((N16.out).fr1 hF (fun h0 hq => by have h1 := Rd.blk_lt (N15.out) h0 _ hq; have h2 := L10.out; omega)); have N27 := Lib.hid ((N26.out).fr1 hF (fun h0 hq => by have h1 := Rd.blk_lt (N25.out) h0 _ hq; have h2 := L10.out; omega)); have B7 := Lib.hid ((B6.out).fr1 hF (fun e => by have := (B5.out).lt; have := L10.out; omega)); have F7 := Lib.hid (Fr0.new F6.out hF (by have := (F5.out).size; have := L10.out; omega)); have L7 := Lib.hid (show g6 < g10 by have := (B5.out).lt; have := L10.out; omega); clear hB hF))
  have K6 := Lib.hid (show Blk w7.drew g6 zk 34 from Blk.drew B7.out)
  have C10 := Lib.hid (show Blk w7.drew g10 sc 25 from Blk.drew C7.out)
  have HC10 := Lib.hid (fun (W : World) (hf : Fr1 g6 w7.drew W) => show W.rangeAt g10 0 (byts cd16) from fun j v hv => by
    have hb := (C10.out).fr1 hf (by have := L7.out; omega)
    rw [HSC.out] at hb
    refine hb.cell (0 + j) ?_
    rw [Nat.zero_add, List.getElem?_toArray]
    rw [H16.out, ← Nat.mul_one 16, ← byts_take, List.getElem?_take] at hv
    split at hv
    · exact hv
    · cases hv)
  have N1a := Lib.hid (show RdB w7.drew (.slice A1 n1 c1) (form m) from (N17.out).fr0 ((Fr0.refl w7).drew))
  have N2a := Lib.hid (show RdB w7.drew (.slice A2 n2 c2) (form e) from (N27.out).fr0 ((Fr0.refl w7).drew))
  have FA := Lib.hid (show Fr0 w w7.drew from Fr0.drew F7.out)
  have HMK := Lib.hid (fun (W : World) (g : Nat) (v0 : Value) (hf : Fr0 w7.drew W) (h0 : RdB W v0 cMark) (hb : Blk W g #[v0, .slice A1 n1 c1, .slice A2 n2 c2] 22) => show Calls Try.prog 8 #[.slice Av nv cv, .slice (some ⟨g, 0, none⟩) 3 3] W (fun e w' => e = .returned (.agg sm) ∧ Fr0 W w') from by
    rw [HSM.out, HMK0.out]
    exact HMM.out W g v0 _ _ cMark (Fr0.trans FA.out hf) (by decide) h0 ((N1a.out).fr0 hf) ((N2a.out).fr0 hf) hb)
  refine wp_region_held_drew (S := (fun W => Fr1 g6 w7.drew W)) (by kernel_rfl) (Fr1.refl g6 _) (fun hHeld => ?_)
  generalize w7.drew = wa at *
  have _hI : True := trivial
  clear _hI
  refine takeH (i := 0) rfl (by kernel_rfl) (by kernel_rfl) (by kernel_rfl) (fun _ _ _ h => h) (v := .slice (some ⟨g10, 0, none⟩) 16 32) (.inl ⟨rfl, fun W hW => (by go_simp; try rfl)⟩) (Fr1.refl g6 wa) ?_
  try simp only [Act.put, List.setIfInBounds_toArray, List.set_cons_zero, List.set_cons_succ]
  have _hI : True := trivial
  clear _hI
  refine takeH (i := 1) rfl (by kernel_rfl) (by kernel_rfl) (by kernel_rfl) (fun _ _ _ h => h) (v := .pointer (some ⟨g10, 0, none⟩)) (.inl ⟨rfl, fun W hW => (by go_simp; try rfl)⟩) (Fr1.refl g6 wa) ?_
  try simp only [Act.put, List.setIfInBounds_toArray, List.set_cons_zero, List.set_cons_succ]
  have _hI : True := trivial
  clear _hI
  refine takeH (i := 2) rfl (by kernel_rfl) (by kernel_rfl) (by kernel_rfl) (fun _ _ _ h => h) (yieldsIf_load_mid (by rfl) 32 _ rfl g10 0 rfl (byts cd16) _ (fun W hW => HC10.out W hW) Try.underlying32 rfl HI16.out) (Fr1.refl g6 wa) ?_
  try simp only [Act.put, List.setIfInBounds_toArray, List.set_cons_zero, List.set_cons_succ]
  have _hI : True := trivial
  clear _hI
  refine takeH (i := 3) rfl (by kernel_rfl) (by kernel_rfl) (by kernel_rfl) (fun _ _ _ h => h) (.inl ⟨rfl, fun W hW => (by go_simp; try rfl)⟩) (Fr1.refl g6 wa) ?_
  try simp only [Act.put, List.setIfInBounds_toArray, List.set_cons_zero, List.set_cons_succ]
  have _hI : True := trivial
  clear _hI
  refine takeH (i := 6) rfl (by kernel_rfl) (by kernel_rfl) (by kernel_rfl) (fun _ _ _ h => h) (.inl ⟨rfl, fun W hW => (by go_simp; try rfl)⟩) (Fr1.refl g6 wa) ?_
  try simp only [Act.put, List.setIfInBounds_toArray, List.set_cons_zero, List.set_cons_succ]
  have _hI : True := trivial
  clear _hI
  refine takeH (i := 7) rfl (by kernel_rfl) (by kernel_rfl) (by kernel_rfl) (fun _ _ _ h => h) (.inl ⟨rfl, fun W hW => (by go_simp; try rfl)⟩) (Fr1.refl g6 wa) ?_
  try simp only [Act.put, List.setIfInBounds_toArray, List.set_cons_zero, List.set_cons_succ]
  have _hI : True := trivial
  clear _hI
  refine wpAnyH_ready (rs := [4]) (by kernel_rfl) (by simp) (consG rfl rfl (fun K hK => ?_) AllReadyH.nil)
  have _hI : True := trivial
  clear _hI
  go_simp
  have U0 := Lib.hid ((Fr0.refl wa).alloc (.cells #[.int .u8 109, .int .u8 97, .int .u8 114, .int .u8 107] 5))
  refine hK.out _ _ (Fr1.of0 U0.out) ?_
  clear hK
  try simp only [Act.put, List.setIfInBounds_toArray, List.set_cons_zero, List.set_cons_succ]
  have _hI : True := trivial
  clear _hI
  refine wpAnyH_ready (rs := [5]) (by kernel_rfl) (by simp) (consG rfl rfl (fun K hK => ?_) AllReadyH.nil)
  have _hI : True := trivial
  clear _hI
  go_simp
  have U1 := Lib.hid ((Fr0.refl wa).alloc (.cells #[.int .u8 109, .int .u8 97, .int .u8 114, .int .u8 107] 5 (4, 5)))
  have M1 := Lib.hid (show RdB (wa.alloc (.cells #[.int .u8 109, .int .u8 97, .int .u8 114, .int .u8 107] 5 (4, 5))) (.slice (some ⟨wa.heap.size, 0, none⟩) 4 4) cMark from lit_at rfl cMark rfl (by decide) (4, 5))
  refine hK.out _ _ (Fr1.of0 U1.out) ?_
  clear hK
  try simp only [Act.put, List.setIfInBounds_toArray, List.set_cons_zero, List.set_cons_succ]
  have _hI : True := trivial
  clear _hI
  refine wpAnyH_ready (rs := [8]) (by kernel_rfl) (by simp) (consG rfl rfl (fun K hK => ?_) AllReadyH.nil)
  have _hI : True := trivial
  clear _hI
  refine wp_built_blk 23 22 _ _ rfl #[.slice (some ⟨wa.heap.size, 0, none⟩) 4 4, .slice A1 n1 c1, .slice A2 n2 c2] (fun W => by go_simp; try rfl) ?_
  intro gb Wn hB hf hg
  have UF := Lib.hid (Fr0.trans U1.out hf)
  have M2 := Lib.hid ((M1.out).fr0 hf)
  have GB := Lib.hid hB
  clear hB hf hg
  refine hK.out _ _ (Fr1.of0 UF.out) ?_
  clear hK
  try simp only [Act.put, List.setIfInBounds_toArray, List.set_cons_zero, List.set_cons_succ]
  have _hI : True := trivial
  clear _hI
  refine wpAnyH_ready (rs := [9]) (by kernel_rfl) (by simp) (consG rfl rfl (fun K hK => ?_) AllReadyH.nil)
  have _hI : True := trivial
  clear _hI
  go_simp
  refine (HMK.out _ _ _ UF.out M2.out GB.out).mono ?_
  rintro e Wn2 ⟨rfl, hf⟩
  replace UF := Lib.hid (Fr0.trans UF.out hf)
  clear hf
  refine hK.out _ _ (Fr1.of0 UF.out) ?_
  clear hK
  try simp only [Act.put, List.setIfInBounds_toArray, List.set_cons_zero, List.set_cons_succ]
  have _hI : True := trivial
  clear _hI
  refine takeH (i := 10) rfl (by kernel_rfl) (by kernel_rfl) (by kernel_rfl) (fun _ _ _ h => h) (v := .agg kA) (.inl ⟨rfl, fun W hW => by unfold execOp; simp only [Sem.run_bind]; rw [run_build W 34 _ kA (by simp [Act.eval, Act.put]; exact HBK.out)]; rfl⟩) (Fr1.of0 UF.out) ?_
  try simp only [Act.put, List.setIfInBounds_toArray, List.set_cons_zero, List.set_cons_succ]
  have _hI : True := trivial
  clear _hI
  refine wpAnyH_ready (rs := [11]) (by kernel_rfl) (by simp) (consG rfl rfl (fun K hK => ?_) AllReadyH.nil)
  have _hI : True := trivial
  clear _hI
  refine wp_store_blk ?qty1 ?qex1 ?qey1 ?qho1 ?qgg1 ?qcc1 ?qhx1 ?qhy1 ?qtt1 ?qold1 ?qhb1 ?qhi1 ?qhd1 ?qh11 ?qre1
  case qcc1 => exact kA
  case qty1 => exact 34
  case qtt1 => exact 34
  case qgg1 => exact g6
  case qold1 => exact zk
  case qex1 => exact (.tmp 6)
  case qey1 => exact (.tmp 49)
  case qho1 => rfl
  case qhb1 => exact (K6.out).fr0 UF.out
  case qhi1 => exact HIK.out
  case qhd1 => exact HOK.out
  case qh11 => exact hak
  case qhx1 => rfl
  case qhy1 => rfl
  intro V hB hf
  have VB := Lib.hid hB
  have VF := Lib.hid (Fr0.new (Fr0.trans FA.out UF.out) hf L6.out)
  have VA := Lib.hid (show Fr1 g6 wa V from Fr1.trans (Fr1.of0 UF.out) hf)
  clear hf hB
  refine hK.out _ _ VA.out ?_
  clear hK
  try simp only [Act.put, List.setIfInBounds_toArray, List.set_cons_zero, List.set_cons_succ]
  have _hI : True := trivial
  clear _hI
  refine takeH (i := 12) rfl (by kernel_rfl) (by kernel_rfl) (by kernel_rfl) (fun _ _ _ h => h) (.inl ⟨rfl, fun W hW => (by go_simp; try rfl)⟩) VA.out ?_
  try simp only [Act.put, List.setIfInBounds_toArray, List.set_cons_zero, List.set_cons_succ]
  refine wpAnyH_done (by kernel_rfl) ?_ _
  have VBO := VB.out
  go_wp2_with fail
  refine bodyPost_ret (v := .tuple #[.agg kA, .int .i64 0]) (key_ret rfl VBO HIK.out rfl rfl) rfl ⟨by rw [HKA.out], VF.out⟩
end Go.Proofs.Ytjkcbklgddnbdaa
set_option linter.unusedSimpArgs false
namespace Go.Proofs.Ytjkcbklgddnbdaa
open Go.RowKit

set_option maxHeartbeats 4000000 in
set_option maxRecDepth 10000 in
theorem rpad_any {v : Value} {key : List UInt8} {w : World} (x : UInt8) (h : RdB w v key) (hl : key.length ≤ 900000) :
    Calls Try.prog 19 #[v, .int .u8 (x.toNat : Int)] w fun e w' => ∃ A c, e = .returned (.slice A 64 c) ∧ SlO w.heap.size w' (.slice A 64 c) (blockN key x) ∧ Fr0 w w' := by
  obtain ⟨Av, cv, rfl, -, -, -⟩ := h.form
  have hxb : (x.toNat : Int) < 256 := by have := x.toNat_lt; omega
  have HKE := Lib.hid (show RdB w (.slice Av key.length cv) key from h)
  obtain ⟨nk, hnk⟩ : ∃ n, n = key.length := ⟨_, rfl⟩
  rw [← hnk] at hl ⊢
  have HNK := Lib.hid hnk
  by_cases hg : nk ≤ 64
  · have HKN := Lib.hid (show keyN key = key from keyN_small (by omega))
    rw [← hnk] at HKE
    clear hnk h
    go_enter Try.func19, Try.ntmps19
    go_upto_region 5 with (refine list_append_sl (base := w.heap.size) (d := []) (e := key) rfl _ _ rfl (SlO.new0 (Nat.le_refl _)) rfl (by simp) ((HKE.out).fr0 ((Fr0.refl w).alloc _)) rfl (by rw [← HNK.out]; simp; omega) ?_; intro A5 c5 w1 hS hF hK; have S5 := Lib.hid (show SlO w.heap.size w1 (.slice A5 (keyN key).length c5) (keyN key) from by rw [HKN.out]; exact hS); have F5 := Lib.hid ((SlO.new0 (Nat.le_refl _)).thenFr ((Fr0.refl w).alloc _) hF); rw [show ([] : List UInt8).length + key.length = (keyN key).length from by rw [HKN.out]; exact Nat.zero_add _]; clear hS hF hK)
    have KN := Lib.hid (keyN_le key)
    have PK := Lib.hid (padK_len key)
    have BK := Lib.hid (blockN_len key x)
    have HAT := Lib.hid (fun i (h : i < 64) => blockN_at key x i h)
    have HPD := Lib.hid (show padK key = keyN key ++ List.replicate (64 - (keyN key).length) 0 from rfl)
    obtain ⟨kn, hkn⟩ : ∃ k, k = keyN key := ⟨_, rfl⟩
    rw [← hkn] at S5 KN HPD ⊢
    obtain ⟨pl, hpl⟩ : ∃ p, p = padK key := ⟨_, rfl⟩
    rw [← hpl] at PK HPD HAT
    obtain ⟨bl, hbl⟩ : ∃ b, b = blockN key x := ⟨_, rfl⟩
    rw [← hbl] at BK HAT
    have HBL := Lib.hid hbl
    obtain ⟨kl, hkl⟩ : ∃ n, n = kn.length := ⟨_, rfl⟩
    rw [← hkl] at S5 KN HPD ⊢
    have kl64 := KN.out
    have HKL := Lib.hid hkl
    clear hkn hpl hbl hkl
    go_wp2_with fail
    go_loopw [5] (fun v5 wr => ∃ (m c : Nat) (A : Option Addr), kl ≤ m ∧ m ≤ 64 ∧ v5 = .slice A m c ∧ SlO w.heap.size wr (.slice A m c) (kn ++ List.replicate (m - kl) 0) ∧ Fr0 w wr) (fun v5 _ => 64 - (match v5 with | .slice _ m _ => m | _ => 0))
    case atStart => exact ⟨kl, c5, A5, Nat.le_refl _, kl64, rfl, by rw [Nat.sub_self, List.replicate_zero, List.append_nil]; exact S5.out, F5.out⟩
    case round =>
      obtain ⟨m, c, A, hm1, hm2, rfl, hS, hF⟩ := hrel
      by_cases hlt : m < 64
      · have KS := Lib.hid hS
        have KF := Lib.hid hF
        have KM := Lib.hid (show (kn ++ List.replicate (m - kl) (0 : UInt8)).length = m from by rw [List.length_append, List.length_replicate, ← HKL.out]; omega)
        clear hS hF
        go_wp2_with (first
          | (refine list_append_sl (base := w.heap.size) (d := kn ++ List.replicate (m - kl) 0) (e := [0]) rfl _ _ rfl ((KS.out).fr0 ((Fr0.refl wr).alloc _)) rfl ?_ ?_ rfl ?_ ?_; · (have := (KF.out).size; simp; omega)
             · exact lit_bytes wr 5 [0] (by simp) (0, 0)
             · (rw [KM.out]; simp; omega)
             intro A3 c3 w3 hS hF hK; have S3 := Lib.hid hS; have F3 := Lib.hid (((KS.out).fr0 ((Fr0.refl wr).alloc _)).thenFr ((KF.out).alloc _) hF); rw [show (kn ++ List.replicate (m - kl) (0 : UInt8)).length + [(0 : UInt8)].length = m + 1 from by rw [KM.out]; rfl]; clear hS hF hK))
        go_roundw
        case measure => simp; omega
        case rel =>
          have h := S3.out
          have e : (kn ++ List.replicate (m - kl) (0 : UInt8)) ++ [0] = kn ++ List.replicate (m + 1 - kl) 0 := by rw [List.append_assoc, ← List.replicate_succ', show m - kl + 1 = m + 1 - kl by omega]
          rw [show ((kn ++ List.replicate (m - kl) (0 : UInt8)) ++ [(0 : UInt8)]).length = m + 1 from by rw [List.length_append, KM.out]; rfl, e] at h
          exact ⟨m + 1, c3, A3, by omega, by omega, rfl, h, F3.out⟩
      · obtain rfl : m = 64 := by omega
        rw [← HPD.out] at hS
        have KS := Lib.hid hS
        have KF := Lib.hid hF
        clear hS hF hlt hm1 hm2
        go_wp2_with fail
        go_loopw [7] (fun v7 wr => ∃ i : Nat, i ≤ 64 ∧ v7 = .int .i64 i ∧ SlO w.heap.size wr (.slice A 64 c) (bl.take i ++ pl.drop i) ∧ Fr0 w wr) (fun v7 _ => 64 - (intOf v7).toNat)
        case atStart => exact ⟨0, by omega, rfl, KS.out, KF.out⟩
        case round =>
          obtain ⟨i, hi, rfl, hS, hF⟩ := hrel
          by_cases hlt : i < 64
          · have i0 : (0 : Int) ≤ (i : Int) := by omega
            have i1 : (i : Int) < 64 := by omega
            have hL : (bl.take i ++ pl.drop i).length = 64 := by rw [List.length_append, List.length_take, List.length_drop, BK.out, PK.out]; omega
            obtain ⟨g6, o6, u6, hA6, hjc, e6, f6, hput⟩ := hS.put (show i < (bl.take i ++ pl.drop i).length by omega)
            subst hA6
            obtain ⟨g7, o7, c7, hv7, _, _, d7⟩ := hS.rd.cell (show i < (bl.take i ++ pl.drop i).length by omega)
            injection hv7 with hA7 hn7 hc7
            injection hA7 with hA7
            injection hA7 with hg7 ho7
            subst hg7 ho7
            have hel : (bl.take i ++ pl.drop i)[i]'(by omega) = pl.getD i 0 := by
              have h := take_set_xor PK.out BK.out hlt
              rw [List.getElem?_toArray, byts_at _ i (by omega)] at h
              injection h with h
              injection h with _ h
              exact UInt8.toNat_inj.1 (by omega)
            rw [hel] at d7
            have hx := xor_u8 (pl.getD i 0) x
            rw [← (HAT.out) i hlt] at hx
            have hset : (bl.take i ++ pl.drop i).set i (bl.getD i 0) = bl.take (i + 1) ++ pl.drop (i + 1) := by
              have h1 : (bl.take i).length = i := by rw [List.length_take, BK.out]; omega
              have h2 : bl.take (i + 1) = bl.take i ++ [bl.getD i 0] := by rw [List.take_add_one, show bl[i]? = some (bl.getD i 0) from by simp [List.getD, BK.out, hlt]]; rfl
              have h3 : pl.drop i = pl.getD i 0 :: pl.drop (i + 1) := by rw [List.drop_eq_getElem_cons (by rw [PK.out]; exact hlt)]; simp [List.getD, PK.out, hlt]
              rw [h3, List.set_append_right _ _ (by omega), h1, Nat.sub_self, List.set_cons_zero, h2, List.append_assoc]
              rfl
            have HN := Lib.hid (hput (bl.getD i 0))
            rw [hset] at HN
            obtain ⟨pi, hpi⟩ : ∃ p, p = pl.getD i 0 := ⟨_, rfl⟩
            obtain ⟨bi, hbi⟩ : ∃ p, p = bl.getD i 0 := ⟨_, rfl⟩
            rw [← hpi] at d7 hx
            rw [← hbi] at hx HN
            have KS := Lib.hid hS
            have HF := Lib.hid hF
            clear hpi hbi hS hF hput hset hel hn7 hc7 hL e6
            go_wp2_with fail
            go_roundw
            case measure => simp [intOf]; omega
            case rel => exact ⟨i + 1, by omega, by go_num, (HN.out).1, (KS.out).thenFr HF.out (HN.out).2⟩
          · obtain rfl : i = 64 := by omega
            have e : bl.take 64 ++ pl.drop 64 = bl := by rw [List.take_of_length_le (by rw [BK.out]; omega), List.drop_of_length_le (by rw [PK.out]; omega), List.append_nil]
            rw [e, HBL.out] at hS
            clear e
            go_wp2_with fail
            go_ret
            exact ⟨A, c, rfl, hS, hF⟩

  · have HKN := Lib.hid (show keyN key = shaN key from keyN_great (by omega))
    have hgt : (64 : Int) < (nk : Int) := by omega
    have HSU := Lib.hid (fun (W : World) (hf : Fr0 w W) => show Calls Try.prog 18 #[.slice Av nk cv] W (fun e w' => e = .returned (.agg (byts (keyN key)).toArray) ∧ Fr0 W w') from by
      rw [HKN.out, hnk]
      exact rsum_any (h.fr0 hf) (by omega))
    have h32 : (keyN key).length = 32 := by rw [HKN.out]; exact sha_len key
    have hi32 := dig_info h32
    have ho32 := z32_size h32
    have ha32 := byts_all (keyN key)
    have HRUN32 := Lib.hid (fun W => z32_run W)
    obtain ⟨z32, hz32⟩ : ∃ z, z = z32A := ⟨_, rfl⟩
    rw [← hz32] at HRUN32 ho32
    obtain ⟨s0, hs0⟩ : ∃ s, s = (byts (keyN key)).toArray := ⟨_, rfl⟩
    rw [← hs0] at HSU hi32 ho32 ha32
    have HS0 := Lib.hid hs0
    have HI := Lib.hid hi32
    have HO := Lib.hid ho32
    have H32 := Lib.hid h32
    rw [← hnk] at HKE
    clear hnk h hz32 hs0 hi32 ho32 h32
    go_enter Try.func19, Try.ntmps19
    go_upto_region 5 with (first
      | (have _q := C4; refine list_append_sl (base := w.heap.size) (d := []) (e := keyN key) rfl _ _ rfl (SlO.new0 ((F4.out).size)) rfl (Nat.le_trans (F4.out).size (by simp)) (by
            have hb := C4.out
            rw [HS0.out] at hb
            have h := arr_rd hb (o := 0) (k := 32) (c := 32) (by rw [H32.out]; decide) (Nat.le_refl _) (by unfold maxLen; decide)
            rw [List.drop_zero, List.take_of_length_le (Nat.le_of_eq H32.out)] at h
            exact h.fr0 ((Fr0.refl _).alloc _)) rfl (by rw [H32.out]; decide) ?_; intro A5 c5 w5 hS hF hK; have S5 := Lib.hid (show SlO w.heap.size w5 (.slice A5 (keyN key).length c5) (keyN key) from hS); have F5 := Lib.hid ((SlO.new0 ((F4.out).size)).thenFr ((F4.out).alloc _) hF); rw [show ([] : List UInt8).length + (keyN key).length = (keyN key).length from Nat.zero_add _]; clear hS hF hK)
      | (refine list_append_sl (base := w.heap.size) (d := []) (e := key) rfl _ _ rfl (SlO.new0 (Nat.le_refl _)) rfl (by simp) ((HKE.out).fr0 ((Fr0.refl w).alloc _)) rfl (by rw [← HNK.out]; simp; omega) ?_; intro A1 c1 w1 hS hF hK; have F1 := Lib.hid ((SlO.new0 (Nat.le_refl _)).thenFr ((Fr0.refl w).alloc _) hF); rw [show ([] : List UInt8).length + key.length = nk from by rw [HNK.out]; exact Nat.zero_add _]; clear hS hF hK)
      | (go_at_call 18; refine (HSU.out _ F1.out).mono ?_; rintro e w2 ⟨rfl, hf⟩; have F2 := Lib.hid (Fr0.trans F1.out hf); clear hf)
      | (refine list_alloc_blk rfl 25 rfl z32 HRUN32.out ?_; intro g6 w3 hB hF hl6; have C3 := Lib.hid hB; have F3 := Lib.hid (Fr0.trans F2.out hF); have L6 := Lib.hid hl6; clear hB hF hl6)
      | (refine list_store_blk rfl 25 _ _ rfl g6 s0 rfl rfl 25 z32 C3.out HI.out HO.out ha32 ?_; intro w4 hB hF; have C4 := Lib.hid hB; have F4 := Lib.hid (Fr0.new F3.out hF (by have := (F2.out).size; have := L6.out; omega)); clear hB hF))
    have KN := Lib.hid (keyN_le key)
    have PK := Lib.hid (padK_len key)
    have BK := Lib.hid (blockN_len key x)
    have HAT := Lib.hid (fun i (h : i < 64) => blockN_at key x i h)
    have HPD := Lib.hid (show padK key = keyN key ++ List.replicate (64 - (keyN key).length) 0 from rfl)
    obtain ⟨kn, hkn⟩ : ∃ k, k = keyN key := ⟨_, rfl⟩
    rw [← hkn] at S5 KN HPD ⊢
    obtain ⟨pl, hpl⟩ : ∃ p, p = padK key := ⟨_, rfl⟩
    rw [← hpl] at PK HPD HAT
    obtain ⟨bl, hbl⟩ : ∃ b, b = blockN key x := ⟨_, rfl⟩
    rw [← hbl] at BK HAT
    have HBL := Lib.hid hbl
    obtain ⟨kl, hkl⟩ : ∃ n, n = kn.length := ⟨_, rfl⟩
    rw [← hkl] at S5 KN HPD ⊢
    have kl64 := KN.out
    have HKL := Lib.hid hkl
    clear hkn hpl hbl hkl
    go_wp2_with fail
    go_loopw [5] (fun v5 wr => ∃ (m c : Nat) (A : Option Addr), kl ≤ m ∧ m ≤ 64 ∧ v5 = .slice A m c ∧ SlO w.heap.size wr (.slice A m c) (kn ++ List.replicate (m - kl) 0) ∧ Fr0 w wr) (fun v5 _ => 64 - (match v5 with | .slice _ m _ => m | _ => 0))
    case atStart => exact ⟨kl, c5, A5, Nat.le_refl _, kl64, rfl, by rw [Nat.sub_self, List.replicate_zero, List.append_nil]; exact S5.out, F5.out⟩
    case round =>
      obtain ⟨m, c, A, hm1, hm2, rfl, hS, hF⟩ := hrel
      by_cases hlt : m < 64
      · have KS := Lib.hid hS
        have KF := Lib.hid hF
        have KM := Lib.hid (show (kn ++ List.replicate (m - kl) (0 : UInt8)).length = m from by rw [List.length_append, List.length_replicate, ← HKL.out]; omega)
        clear hS hF
        go_wp2_with (first
          | (refine list_append_sl (base := w.heap.size) (d := kn ++ List.replicate (m - kl) 0) (e := [0]) rfl _ _ rfl ((KS.out).fr0 ((Fr0.refl wr).alloc _)) rfl ?_ ?_ rfl ?_ ?_; · (have := (KF.out).size; simp; omega)
             · exact lit_bytes wr 5 [0] (by simp) (0, 0)
             · (rw [KM.out]; simp; omega)
             intro A3 c3 w3 hS hF hK; have S3 := Lib.hid hS; have F3 := Lib.hid (((KS.out).fr0 ((Fr0.refl wr).alloc _)).thenFr ((KF.out).alloc _) hF); rw [show (kn ++ List.replicate (m - kl) (0 : UInt8)).length + [(0 : UInt8)].length = m + 1 from by rw [KM.out]; rfl]; clear hS hF hK))
        go_roundw
        case measure => simp; omega
        case rel =>
          have h := S3.out
          have e : (kn ++ List.replicate (m - kl) (0 : UInt8)) ++ [0] = kn ++ List.replicate (m + 1 - kl) 0 := by rw [List.append_assoc, ← List.replicate_succ', show m - kl + 1 = m + 1 - kl by omega]
          rw [show ((kn ++ List.replicate (m - kl) (0 : UInt8)) ++ [(0 : UInt8)]).length = m + 1 from by rw [List.length_append, KM.out]; rfl, e] at h
          exact ⟨m + 1, c3, A3, by omega, by omega, rfl, h, F3.out⟩
      · obtain rfl : m = 64 := by omega
        rw [← HPD.out] at hS
        have KS := Lib.hid hS
        have KF := Lib.hid hF
        clear hS hF hlt hm1 hm2
        go_wp2_with fail
        go_loopw [7] (fun v7 wr => ∃ i : Nat, i ≤ 64 ∧ v7 = .int .i64 i ∧ SlO w.heap.size wr (.slice A 64 c) (bl.take i ++ pl.drop i) ∧ Fr0 w wr) (fun v7 _ => 64 - (intOf v7).toNat)
        case atStart => exact ⟨0, by omega, rfl, KS.out, KF.out⟩
        case round =>
          obtain ⟨i, hi, rfl, hS, hF⟩ := hrel
          by_cases hlt : i < 64
          · have i0 : (0 : Int) ≤ (i : Int) := by omega
            have i1 : (i : Int) < 64 := by omega
            have hL : (bl.take i ++ pl.drop i).length = 64 := by rw [List.length_append, List.length_take, List.length_drop, BK.out, PK.out]; omega
            obtain ⟨g6, o6, u6, hA6, hjc, e6, f6, hput⟩ := hS.put (show i < (bl.take i ++ pl.drop i).length by omega)
            subst hA6
            obtain ⟨g7, o7, c7, hv7, _, _, d7⟩ := hS.rd.cell (show i < (bl.take i ++ pl.drop i).length by omega)
            injection hv7 with hA7 hn7 hc7
            injection hA7 with hA7
            injection hA7 with hg7 ho7
            subst hg7 ho7
            have hel : (bl.take i ++ pl.drop i)[i]'(by omega) = pl.getD i 0 := by
              have h := take_set_xor PK.out BK.out hlt
              rw [List.getElem?_toArray, byts_at _ i (by omega)] at h
              injection h with h
              injection h with _ h
              exact UInt8.toNat_inj.1 (by omega)
            rw [hel] at d7
            have hx := xor_u8 (pl.getD i 0) x
            rw [← (HAT.out) i hlt] at hx
            have hset : (bl.take i ++ pl.drop i).set i (bl.getD i 0) = bl.take (i + 1) ++ pl.drop (i + 1) := by
              have h1 : (bl.take i).length = i := by rw [List.length_take, BK.out]; omega
              have h2 : bl.take (i + 1) = bl.take i ++ [bl.getD i 0] := by rw [List.take_add_one, show bl[i]? = some (bl.getD i 0) from by simp [List.getD, BK.out, hlt]]; rfl
              have h3 : pl.drop i = pl.getD i 0 :: pl.drop (i + 1) := by rw [List.drop_eq_getElem_cons (by rw [PK.out]; exact hlt)]; simp [List.getD, PK.out, hlt]
              rw [h3, List.set_append_right _ _ (by omega), h1, Nat.sub_self, List.set_cons_zero, h2, List.append_assoc]
              rfl
            have HN := Lib.hid (hput (bl.getD i 0))
            rw [hset] at HN
            obtain ⟨pi, hpi⟩ : ∃ p, p = pl.getD i 0 := ⟨_, rfl⟩
            obtain ⟨bi, hbi⟩ : ∃ p, p = bl.getD i 0 := ⟨_, rfl⟩
            rw [← hpi] at d7 hx
            rw [← hbi] at hx HN
            have KS := Lib.hid hS
            have HF := Lib.hid hF
            clear hpi hbi hS hF hput hset hel hn7 hc7 hL e6
            go_wp2_with fail
            go_roundw
            case measure => simp [intOf]; omega
            case rel => exact ⟨i + 1, by omega, by go_num, (HN.out).1, (KS.out).thenFr HF.out (HN.out).2⟩
          · obtain rfl : i = 64 := by omega
            have e : bl.take 64 ++ pl.drop 64 = bl := by rw [List.take_of_length_le (by rw [BK.out]; omega), List.drop_of_length_le (by rw [PK.out]; omega), List.append_nil]
            rw [e, HBL.out] at hS
            clear e
            go_wp2_with fail
            go_ret
            exact ⟨A, c, rfl, hS, hF⟩
end Go.Proofs.Ytjkcbklgddnbdaa
set_option linter.unusedSimpArgs false
namespace Go.Proofs.Ytjkcbklgddnbdaa
open Go.RowKit

set_option maxHeartbeats 4000000 in
set_option maxRecDepth 10000 in
theorem rof_any {kv tv : Value} {key text : List UInt8} {w : World} (hk : RdB w kv key) (hkl : key.length ≤ 900000) (ht : RdB w tv text) (htl : text.length ≤ 800000) :
    Calls Try.prog 9 #[kv, tv] w fun e w' => e = .returned (.agg (byts (macN key text)).toArray) ∧ Fr0 w w' := by
  obtain ⟨Ak, ck, rfl, -, -, -⟩ := hk.form
  obtain ⟨At, ct, rfl, -, -, -⟩ := ht.form
  have HT := Lib.hid (show RdB w (.slice At text.length ct) text from ht)
  have HP54 := Lib.hid (fun (W : World) (hf : Fr0 w W) => show Calls Try.prog 19 #[.slice Ak key.length ck, .int .u8 54] W (fun e w' => ∃ A c, e = .returned (.slice A 64 c) ∧ SlO W.heap.size w' (.slice A 64 c) (blockN key 54) ∧ Fr0 W w') from rpad_any 54 (hk.fr0 hf) hkl)
  have HP92 := Lib.hid (fun (W : World) (hf : Fr0 w W) => show Calls Try.prog 19 #[.slice Ak key.length ck, .int .u8 92] W (fun e w' => ∃ A c, e = .returned (.slice A 64 c) ∧ SlO W.heap.size w' (.slice A 64 c) (blockN key 92) ∧ Fr0 W w') from rpad_any 92 (hk.fr0 hf) hkl)
  have HRUN := Lib.hid (fun W => z32_run W)
  have b54 := blockN_len key 54
  have b92 := blockN_len key 92
  have ho2 := z32_size (macN_len key text)
  have hi2 := dig_info (macN_len key text)
  have ha2 := byts_all (macN key text)
  obtain ⟨ino, hin⟩ : ∃ i, i = shaN (blockN key 54 ++ text) := ⟨_, rfl⟩
  have hil : ino.length = 32 := by rw [hin]; exact shaN_len _
  have HRI := Lib.hid (fun (W : World) (v : Value) (h : RdB W v (blockN key 54 ++ text)) => show Calls Try.prog 18 #[v] W (fun e w' => e = .returned (.agg (byts ino).toArray) ∧ Fr0 W w') from by
    rw [hin]
    exact rsum_any h (by rw [List.length_append, b54]; omega))
  have HRS := Lib.hid (fun (W : World) (v : Value) (h : RdB W v (blockN key 92 ++ ino)) => show Calls Try.prog 18 #[v] W (fun e w' => e = .returned (.agg (byts (macN key text)).toArray) ∧ Fr0 W w') from by
    rw [show macN key text = shaN (blockN key 92 ++ ino) from by rw [hin]; rfl]
    exact rsum_any h (by rw [List.length_append, b92, hil]; decide))
  have ho1 := z32_size hil
  have hi1 := dig_info hil
  have ha1 := byts_all ino
  obtain ⟨so, hso⟩ : ∃ s, s = (byts (macN key text)).toArray := ⟨_, rfl⟩
  obtain ⟨si, hsi⟩ : ∃ s, s = (byts ino).toArray := ⟨_, rfl⟩
  obtain ⟨z32, hz32⟩ : ∃ z, z = z32A := ⟨_, rfl⟩
  obtain ⟨s92, hs92⟩ : ∃ s, s = blockN key 92 := ⟨_, rfl⟩
  obtain ⟨s54, hs54⟩ : ∃ s, s = blockN key 54 := ⟨_, rfl⟩
  rw [← hso] at HRS ho2 hi2 ha2
  rw [← hsi] at HRI ho1 hi1 ha1
  rw [← hz32] at HRUN ho1 ho2
  rw [← hs92] at HRS HP92 b92
  rw [← hs54] at HRI HP54 b54
  have HIO := Lib.hid hi2
  have HOO := Lib.hid ho2
  have HII := Lib.hid hi1
  have HOI := Lib.hid ho1
  have HSO := Lib.hid hso
  have HSI := Lib.hid hsi
  have H54 := Lib.hid b54
  have H92 := Lib.hid b92
  have HIL := Lib.hid hil
  obtain ⟨nk, hnk⟩ : ∃ n, n = key.length := ⟨_, rfl⟩
  obtain ⟨nt, hnt⟩ : ∃ n, n = text.length := ⟨_, rfl⟩
  rw [← hnk] at HP54 HP92 ⊢
  rw [← hnt] at HT htl ⊢
  have HNT := Lib.hid hnt
  clear hk hkl ht b54 b92 ho2 hi2 hin hil ho1 hi1 hso hsi hz32 hs92 hs54 hnk hnt
  go_enter Try.func9, Try.ntmps9
  go_upto_region 2 with (first
    | (have _q := C5; refine list_store_blk rfl 25 _ _ rfl g5 si rfl rfl 25 z32 C5.out HII.out HOI.out ha1 ?_; intro w5b hB hF; have V5 := Lib.hid (Blk.drew hB); have V4 := Lib.hid (Blk.drew ((B5.out).fr1 hF (fun e => by have := (B4.out).lt; have := L5.out; omega))); have UF := Lib.hid (Fr0.drew (Fr0.new F5.out hF (by have := (F4.out).size; have := L5.out; omega))); clear hB hF)
    | (have _q := B4; refine list_alloc_blk rfl 25 rfl z32 HRUN.out ?_; intro g5 w5 hB hF hl5; have C5 := Lib.hid hB; have B5 := Lib.hid ((B4.out).fr0 hF); have F5 := Lib.hid (Fr0.trans F4.out hF); have L5 := Lib.hid hl5; clear hB hF hl5)
    | (refine list_alloc_blk rfl 25 rfl z32 HRUN.out ?_; intro g4 w0 hB hF hl4; have B0 := Lib.hid hB; have F0 := Lib.hid hF; have L4 := Lib.hid hl4; clear hB hF hl4)
    | (go_at_call 19; refine (HP54.out _ F0.out).mono ?_; rintro e w1 ⟨A1, c1, rfl, hS, hf⟩; have S1 := Lib.hid hS; have B1 := Lib.hid ((B0.out).fr0 hf); have F1 := Lib.hid (Fr0.trans F0.out hf); have S1s := Lib.hid hf.size; clear hS hf)
    | (refine list_append_sl (base := w0.heap.size) (d := s54) (e := text) rfl _ _ rfl S1.out rfl S1s.out ((HT.out).fr0 F1.out) rfl (by rw [H54.out, ← HNT.out]; omega) ?_; intro A3 c3 w3 hS hF hK; have S3 := Lib.hid (show SlO w0.heap.size w3 (.slice A3 (64 + nt) c3) (s54 ++ text) from by have h := hS; rw [show (s54 ++ text).length = 64 + nt from by rw [List.length_append, H54.out, HNT.out]] at h; exact h); have B3 := Lib.hid ((B1.out).fr hF (fun hk => (S1.out).ne B1.out (by decide) _ hk rfl)); have F3 := Lib.hid (Fr.then F1.out hF (fun i hi hlt => absurd ((S1.out).lo i hi).1 (by have := (F0.out).size; omega))); rw [show s54.length + text.length = 64 + nt from by rw [H54.out, HNT.out]]; clear hS hF hK)
    | (go_at_call 18; refine (HRI.out _ _ (S3.out).rd).mono ?_; rintro e w4 ⟨rfl, hf⟩; have B4 := Lib.hid ((B3.out).fr0 hf); have F4 := Lib.hid (Fr0.trans F3.out hf); clear hf))
  have hl4 := L4.out
  refine wp_region_held_drew (S := (fun _ => True)) (by kernel_rfl) trivial (fun hHeld => ?_)
  have _hI : True := trivial
  clear _hI
  refine takeH (i := 0) rfl (by kernel_rfl) (by kernel_rfl) (by kernel_rfl) (fun _ _ _ h => h) (yields_move rfl _ rfl) trivial ?_
  try simp only [Act.put, List.setIfInBounds_toArray, List.set_cons_zero, List.set_cons_succ]
  have _hI : True := trivial
  clear _hI
  refine takeH (i := 2) rfl (by kernel_rfl) (by kernel_rfl) (by kernel_rfl) (fun _ _ _ h => h) (v := .slice (some ⟨g5, 0, none⟩) 32 32) (.inl ⟨rfl, fun W _ => (by go_simp; try rfl)⟩) trivial ?_
  try simp only [Act.put, List.setIfInBounds_toArray, List.set_cons_zero, List.set_cons_succ]
  have _hI : True := trivial
  clear _hI
  refine wpAnyH_ready (rs := [1]) (by kernel_rfl) (by simp) (consH rfl rfl (fun K hK => ?_) AllReadyH.nil)
  have _hI : True := trivial
  clear _hI
  go_simp
  refine (HP92.out _ UF.out).mono ?_
  rintro e w6 ⟨A6, c6, rfl, hS, hf⟩
  have S6 := Lib.hid hS
  have U5 := Lib.hid ((V5.out).fr0 hf)
  have U4 := Lib.hid ((V4.out).fr0 hf)
  have F6 := Lib.hid (Fr0.trans UF.out hf)
  have U6 := Lib.hid hf.size
  clear hS hf
  refine hK.out _ _ trivial ?_
  clear hK
  try simp only [Act.put, List.setIfInBounds_toArray, List.set_cons_zero, List.set_cons_succ]
  have _hI : True := trivial
  clear _hI
  refine wpAnyH_ready (rs := [3]) (by kernel_rfl) (by simp) (consH rfl rfl (fun K hK => ?_) AllReadyH.nil)
  have _hI : True := trivial
  clear _hI
  refine wp_append_sl (base := w5b.drew.heap.size) (d := s92) (e := ino) _ _ rfl S6.out rfl U6.out (by have hb := U5.out; rw [HSI.out] at hb; exact rd64 hb HIL.out (by decide)) rfl (by rw [H92.out, HIL.out]; decide) ?_
  intro A7 c7 w7 hS hF hK2
  have S7 := Lib.hid (show SlO w5b.drew.heap.size w7 (.slice A7 96 c7) (s92 ++ ino) from by have h := hS; rw [show (s92 ++ ino).length = 96 from by rw [List.length_append, H92.out, HIL.out]] at h; exact h)
  have W4 := Lib.hid ((U4.out).fr hF (fun hk => (S6.out).ne U4.out (by decide) _ hk rfl))
  have F7 := Lib.hid (Fr.then F6.out hF (fun i hi hlt => absurd ((S6.out).lo i hi).1 (by have := (UF.out).size; omega)))
  rw [show s92.length + ino.length = 96 from by rw [H92.out, HIL.out]]
  clear hS hF hK2
  refine hK.out _ _ trivial ?_
  clear hK
  try simp only [Act.put, List.setIfInBounds_toArray, List.set_cons_zero, List.set_cons_succ]
  have _hI : True := trivial
  clear _hI
  refine wpAnyH_ready (rs := [4]) (by kernel_rfl) (by simp) (consH rfl rfl (fun K hK => ?_) AllReadyH.nil)
  have _hI : True := trivial
  clear _hI
  go_simp
  refine (HRS.out _ _ (S7.out).rd).mono ?_
  rintro e w8 ⟨rfl, hf⟩
  have X4 := Lib.hid ((W4.out).fr0 hf)
  have F8 := Lib.hid (Fr0.trans F7.out hf)
  clear hf
  refine hK.out _ _ trivial ?_
  clear hK
  try simp only [Act.put, List.setIfInBounds_toArray, List.set_cons_zero, List.set_cons_succ]
  have _hI : True := trivial
  clear _hI
  refine wpAnyH_ready (rs := [5]) (by kernel_rfl) (by simp) (consH rfl rfl (fun K hK => ?_) AllReadyH.nil)
  have _hI : True := trivial
  clear _hI
  refine wp_store_blk ?qty1 ?qex1 ?qey1 ?qho1 ?qgg1 ?qcc1 ?qhx1 ?qhy1 ?qtt1 ?qold1 ?qhb1 ?qhi1 ?qhd1 ?qh11 ?qre1
  case qcc1 => exact so
  case qty1 => exact 25
  case qtt1 => exact 25
  case qgg1 => exact g4
  case qold1 => exact z32
  case qex1 => exact (.tmp 4)
  case qey1 => exact (.tmp 15)
  case qho1 => rfl
  case qhb1 => exact X4.out
  case qhi1 => exact HIO.out
  case qhd1 => exact HOO.out
  case qh11 => exact ha2
  case qhx1 => rfl
  case qhy1 => rfl
  intro V hB hf
  have VB := Lib.hid hB
  have VF := Lib.hid (Fr0.new F8.out hf hl4)
  clear hf hB
  refine hK.out _ _ trivial ?_
  clear hK
  try simp only [Act.put, List.setIfInBounds_toArray, List.set_cons_zero, List.set_cons_succ]
  refine wpAnyH_done (by kernel_rfl) ?_ _
  have VBO := VB.out
  go_wp2_with fail
  refine bodyPost_ret (v := .agg so) (results_cell_row rfl _ _ g4 25 so (0, 0) _ rfl VBO Try.underlying25 rfl HIO.out) rfl ⟨by rw [HSO.out], VF.out⟩
end Go.Proofs.Ytjkcbklgddnbdaa
namespace Go.Proofs.Ytjkcbklgddnbdaa
open Go.RowKit

def hs (m : Nat) : Nat → List UInt8
  | 0 => []
  | k + 1 => UInt8.ofNat (m / 128 ^ k % 128 + 128) :: hs m k
def grp (n : Nat) : Nat → List UInt8
  | 0 => []
  | k + 1 => UInt8.ofNat (n / 128 ^ k % 128 + if 0 < k then 128 else 0) :: grp n k
theorem hs_low (m : Nat) : ∀ k, hs m (k + 1) = hs (m / 128) k ++ [UInt8.ofNat (128 + m % 128)]
  | 0 => by simp [hs, Nat.add_comm]
  | k + 1 => by
    rw [hs, hs_low m k, hs, List.cons_append, Nat.div_div_eq_div_mul, show 128 * 128 ^ k = 128 ^ (k + 1) by rw [Nat.pow_succ, Nat.mul_comm]]
theorem hi_hs : ∀ (k m : Nat), m < 128 ^ k → (k = 0 ∨ 128 ^ (k - 1) ≤ m) → hiW m = hs m k := by
  intro k
  induction k with
  | zero => intro m h _; have : m = 0 := by simpa using h
            subst this; simp [hi_zero, hs]
  | succ k ih =>
    intro m h h'
    have hp : 128 ^ k ≤ m := by simpa using h'
    have h1 : 1 ≤ 128 ^ k := Nat.one_le_pow _ _ (by omega)
    rw [hi_pos (by omega), hs_low, ih (m / 128) (by rw [Nat.div_lt_iff_lt_mul (by omega)]; rw [Nat.pow_succ] at h; exact h)]
    rcases Nat.eq_zero_or_pos k with h0 | h0
    · exact .inl h0
    · refine .inr ?_
      rw [Nat.le_div_iff_mul_le (by omega), ← Nat.pow_succ, show (k - 1).succ = k by omega]
      exact hp
theorem grp_hs (n : Nat) : ∀ k, grp n (k + 1) = hs (n / 128) k ++ [UInt8.ofNat (n % 128)]
  | 0 => by simp [grp, hs]
  | k + 1 => by
    rw [grp, grp_hs n k, hs, List.cons_append, Nat.div_div_eq_div_mul, show 128 * 128 ^ k = 128 ^ (k + 1) by rw [Nat.pow_succ, Nat.mul_comm], if_pos (by omega)]
theorem form_grp (n g : Nat) (h1 : 1 ≤ g) (h : n < 128 ^ g) (h' : g = 1 ∨ 128 ^ (g - 1) ≤ n) : form n = grp n g := by
  obtain ⟨k, rfl⟩ : ∃ k, g = k + 1 := ⟨g - 1, by omega⟩
  rw [grp_hs, form, hi_hs k]
  · rw [Nat.div_lt_iff_lt_mul (by omega), ← Nat.pow_succ]; exact h
  · rcases Nat.eq_zero_or_pos k with h0 | h0
    · exact .inl h0
    · refine .inr ?_
      rcases h' with h' | h'
      · omega
      · rw [Nat.le_div_iff_mul_le (by omega), ← Nat.pow_succ, show (k - 1).succ = k by omega]
        simpa using h'
theorem grp_len (n : Nat) : ∀ k, (grp n k).length = k
  | 0 => rfl
  | k + 1 => by simp [grp, grp_len n k]

theorem pow7 (i : Nat) : 2 ^ (7 * i) = 128 ^ i := by rw [Nat.pow_mul]
theorem shr7 (n i : Nat) : (n : Int) / 2 ^ ((7 * (i : Int)).toNat) = ((n / 128 ^ i : Nat) : Int) := by
  have e : (7 * (i : Int)).toNat = 7 * i := by omega
  rw [e, ← pow7]
  simp
/-- A slice of one byte, just built. -/
theorem rd_oneW (w : World) (x : Int) : Rd (w.alloc (.cells #[.int .u8 x] 5)) 1 (.slice (some ⟨w.heap.size, 0, none⟩) 1 1) 1 [.int .u8 x] :=
  ⟨rfl, ⟨_, _, rfl, Nat.le_refl _, by unfold maxLen; omega, fun h => by cases h⟩, fun _ => ⟨w.heap.size, 0, 1, _, _, _, rfl, heap_alloc_new w _, fun j u hu => by simpa using hu⟩⟩
theorem one_cell (x : Int) : ∀ u ∈ [Value.int .u8 x], u.oneCell' = true := by simp [Value.oneCell']

set_option maxHeartbeats 400000 in
set_option maxRecDepth 100000 in
theorem refNum_any (n : Nat) (hn : n < 18446744073709551616) (w : World) :
    Calls Try.prog 21 #[.int .u64 (n : Int)] w fun e w' => ∃ v, e = .returned v ∧ w'.ownsRow w.heap.size 5 1 v (form n).length (byts (form n)) ∧ Fr0 w w' := by
  obtain ⟨i0, hiW, hz0, hz1, hz2⟩ := info_parts infoU8
  have Hi := Lib.hid hiW
  clear hiW
  go_enter Try.func21, Try.ntmps21
  go_wp2_with fail
  go_loopw [3] (fun v3 wr => wr = w ∧ ∃ g : Nat, v3 = .int .i64 (g : Int) ∧ 1 ≤ g ∧ g ≤ 10 ∧ (g = 1 ∨ 128 ^ (g - 1) ≤ n)) (fun v3 _ => 10 - (intOf v3).toNat)
  case atStart => exact ⟨rfl, 1, rfl, by omega, by omega, .inl rfl⟩
  case round =>
    obtain ⟨hww, g, rfl, hg1, hg10, hp⟩ := hrel
    obtain rfl : w = wr := hww.symm
    by_cases hc : g < 10 ∧ 0 < n / 128 ^ g
    · obtain ⟨hc1, hc2⟩ := hc
      have q0 : decide ((g : Int) < 10) = true := by simp; omega
      have e4 : IntKind.i64.wrap (7 * (g : Int)) = 7 * (g : Int) := IntWalk.i64_in _ (by omega)
      have e5 : IntKind.u64.wrap (7 * (g : Int)) = 7 * (g : Int) := by show (7 * (g : Int)) % 18446744073709551616 = _; omega
      have es := shr7 n g
      obtain ⟨q, hq⟩ : ∃ q, q = n / 128 ^ g := ⟨_, rfl⟩
      rw [← hq] at es hc2
      have q1 : decide (0 < (q : Int)) = true := by simp; omega
      have q2 : decide (0 < q) = true := by simpa using hc2
      have HQ := Lib.hid hq
      have HC := Lib.hid hc2
      clear hq hc2
      go_wp2_with fail
      go_roundw
      case rel =>
        refine ⟨trivial, g + 1, by simp, by omega, by omega, .inr ?_⟩
        have h1 := HC.out
        rw [HQ.out] at h1
        rw [show g + 1 - 1 = g by omega]
        exact (Nat.div_pos_iff.1 h1).2
      case measure => simp [intOf]; omega
    · have hlt : n < 128 ^ g := by
        rcases Nat.lt_or_ge g 10 with h | h
        · have h0 : ¬ 0 < n / 128 ^ g := fun h' => hc ⟨h, h'⟩
          rcases Nat.lt_or_ge n (128 ^ g) with h' | h'
          · exact h'
          · exact absurd (Nat.div_pos h' (Nat.pow_pos (by omega))) h0
        · have : g = 10 := by omega
          subst this
          have : (128 : Nat) ^ 10 = 1180591620717411303424 := by decide
          omega
      have hF := form_grp n g hg1 hlt hp
      have HF := Lib.hid hF
      have e4 : IntKind.i64.wrap (7 * (g : Int)) = 7 * (g : Int) := IntWalk.i64_in _ (by omega)
      have e5 : IntKind.u64.wrap (7 * (g : Int)) = 7 * (g : Int) := by show (7 * (g : Int)) % 18446744073709551616 = _; omega
      have es := shr7 n g
      obtain ⟨q, hq⟩ : ∃ q, q = n / 128 ^ g := ⟨_, rfl⟩
      rw [← hq] at es
      have hq0 : q = 0 := by rw [hq]; exact Nat.div_eq_of_lt hlt
      have q1 : decide (0 < (q : Int)) = false := by simp; omega
      have q2 : decide (0 < q) = false := by simp; omega
      have e2 : IntKind.i64.wrap ((g : Int) - 1) = (g : Int) - 1 := IntWalk.i64_in _ (by omega)
      clear hF hlt hc hp hq hq0
      have go : ∀ {X : Prop}, (decide ((g : Int) < 10) = true → X) → (decide ((g : Int) < 10) = false → X) → X := fun h1 h2 => (Bool.eq_false_or_eq_true _).elim h1 h2
      refine go (fun q0 => ?_) (fun q0 => ?_)
      all_goals
        clear go
        have hg9 := q0
        simp only [decide_eq_true_eq, decide_eq_false_iff_not] at hg9
        go_wp2_with fail
        clear q0 e4 e5 es e2 q1 q2
        go_loopw [4, 5] (fun v4 v5 w2 => ∃ (k : Nat) (A : Option Addr) (c : Nat) (o : List UInt8), v5 = .int .i64 ((k : Int) - 1) ∧ k ≤ g ∧ v4 = .slice A o.length c ∧ Fr0 w w2 ∧ w2.ownsRow w.heap.size 5 1 (.slice A o.length c) o.length (byts o) ∧ o ++ grp n k = grp n g ∧ o.length + k = g) (fun _ v5 _ => (intOf v5 + 1).toNat)
        case atStart => exact ⟨g, none, 0, [], rfl, by omega, rfl, Fr0.refl w, World.ownsRow_nil _ _ _ _, rfl, by simp⟩
        case round =>
          obtain ⟨k, A, c, o, rfl, hk, rfl, hf, hown, hform, hlen⟩ := hrel
          rcases Nat.eq_zero_or_pos k with hk0 | hk0
          · subst hk0
            have q0 : decide ((0 : Int) ≤ ((0 : Nat) : Int) - 1) = false := by decide
            have HFF := Lib.hid hform
            clear hform hlen
            go_wp2_with fail
            go_ret
            have e1 := HFF.out
            rw [grp, List.append_nil, ← HF.out] at e1
            subst e1
            exact ⟨_, rfl, hown, hf⟩
          · obtain ⟨i, rfl⟩ : ∃ i, k = i + 1 := ⟨k - 1, by omega⟩
            have e0 : (((i + 1 : Nat) : Int) - 1) = (i : Int) := by omega
            rw [e0]
            have q0 : decide ((0 : Int) ≤ (i : Int)) = true := by simp
            have e4 : IntKind.i64.wrap (7 * (i : Int)) = 7 * (i : Int) := IntWalk.i64_in _ (by omega)
            have e5 : IntKind.u64.wrap (7 * (i : Int)) = 7 * (i : Int) := by show (7 * (i : Int)) % 18446744073709551616 = _; omega
            have es := shr7 n i
            obtain ⟨q, hq⟩ : ∃ q, q = n / 128 ^ i := ⟨_, rfl⟩
            rw [← hq] at es
            have HO := Lib.hid hown
            have HQ := Lib.hid hq
            have HFF := Lib.hid hform
            have HL := Lib.hid hlen
            have hl7 : o.length ≤ 9 := by omega
            have hf' := Lib.hid hf
            have e6 : (q : Int) % 128 % 256 = (q : Int) % 128 := by omega
            clear hown hq hform hlen e0 hf
            rcases Nat.eq_zero_or_pos i with hi0 | hi0
            · have q3 : decide (0 < (i : Int)) = false := by simp; omega
              have q4 : decide (0 < i) = false := by simp; omega
              have I0 := Lib.hid hi0
              clear hi0
              go_wp2_with (at_builtin; refine wpList_append_rd _ rfl _ _ 22 rfl w.heap.size 5 i0 (.int .u8 0) 1 1 Try.underlying22 Hi.out hz0 hz1 hz2 rfl (by decide) _ _ _ rfl ((HO.out).alloc _) _ 1 _ rfl (rd_oneW _ _) (one_cell _) (by unfold maxLen; omega) (by omega) ((hf'.out).alloc _).size ?_; intro v' w2 hown' hgrow; obtain ⟨A', c', rfl, -, -, -⟩ := own_form hown')
              clear q0 e4 e5 es q3 q4 e6
              go_roundw
              case measure => simp [intOf]
              refine ⟨i, A', c', o ++ [UInt8.ofNat (n / 128 ^ i % 128 + if 0 < i then 128 else 0)], rfl, by omega, by simp, Fr.grown ((hf'.out).alloc _) hgrow (fun k hk => .inr (own_lt' (HO.out) k hk).1), ?_, ?_, ?_⟩
              · have e : byts (o ++ [UInt8.ofNat (n / 128 ^ i % 128 + if 0 < i then 128 else 0)]) = byts o ++ [.int .u8 ((q : Int) % 128)] := by
                  rw [← HQ.out, if_neg (by have := I0.out; omega), byts_app]
                  simp [byts]
                  omega
                rw [e, List.length_append]
                exact hown'
              · rw [← HFF.out, grp]; simp
              · have := HL.out; simp; omega
            · have q3 : decide (0 < (i : Int)) = true := by simp; omega
              have q4 : decide (0 < i) = true := by simp; omega
              have e7 : ((q : Int) % 128 + 128) % 256 = (q : Int) % 128 + 128 := by omega
              have e8 : IntKind.u8.wrap ((q : Int) % 128 + 128) = (q : Int) % 128 + 128 := by show ((q : Int) % 128 + 128) % 256 = _; omega
              have I0 := Lib.hid hi0
              clear hi0
              go_wp2_with (at_builtin; refine wpList_append_rd _ rfl _ _ 22 rfl w.heap.size 5 i0 (.int .u8 0) 1 1 Try.underlying22 Hi.out hz0 hz1 hz2 rfl (by decide) _ _ _ rfl ((HO.out).alloc _) _ 1 _ rfl (rd_oneW _ _) (one_cell _) (by unfold maxLen; omega) (by omega) ((hf'.out).alloc _).size ?_; intro v' w2 hown' hgrow; obtain ⟨A', c', rfl, -, -, -⟩ := own_form hown')
              clear q0 e4 e5 es q3 q4 e6 e7 e8
              go_roundw
              case measure => simp [intOf]
              refine ⟨i, A', c', o ++ [UInt8.ofNat (n / 128 ^ i % 128 + if 0 < i then 128 else 0)], rfl, by omega, by simp, Fr.grown ((hf'.out).alloc _) hgrow (fun k hk => .inr (own_lt' (HO.out) k hk).1), ?_, ?_, ?_⟩
              · have e : byts (o ++ [UInt8.ofNat (n / 128 ^ i % 128 + if 0 < i then 128 else 0)]) = byts o ++ [.int .u8 ((q : Int) % 128 + 128)] := by
                  rw [← HQ.out, if_pos (by have := I0.out; omega), byts_app]
                  simp [byts]
                  omega
                rw [e, List.length_append]
                exact hown'
              · rw [← HFF.out, grp]; simp
              · have := HL.out; simp; omega

end Go.Proofs.Ytjkcbklgddnbdaa
set_option linter.unusedSimpArgs false
namespace Go.Proofs.Ytjkcbklgddnbdaa
open Go.RowKit

/-- append onto bytes written out, where something comes behind them. -/
theorem list_append_lit {ops : Array Oper} {rest : List Oper} {o : Oper} {a : Act} {w : World} {Q : Exit → Act → World → Prop} {g n : Nat} {v2 : Value} {d e : List UInt8} (hgd : o.guard = none) (s x : Operand) (ho : o.op = .call { callee := .builtin .append, args := #[s, x], argTypes := #[22, 22] })
    (h : RdB w (.slice (some ⟨g, 0, none⟩) n n) d) (hs : a.eval s = .slice (some ⟨g, 0, none⟩) n n) (hr : RdB w v2 e) (hx : a.eval x = v2) (he : 0 < e.length) (hl : d.length + e.length ≤ 1000000)
    (hK : ∀ A c w', SlO w.heap.size w' (.slice A (d ++ e).length c) (d ++ e) → Fr0 w w' → wpList Try.prog ops Q rest (a.put o.dst (.slice A (n + e.length) c)) w') :
    wpList Try.prog ops Q (o :: rest) a w := by
  obtain ⟨i, hi, hz0, hz1, hz2⟩ := info_parts infoB2
  obtain ⟨A2, c2, rfl, hnc, hcm, hnone⟩ := hr.form
  have hn : d.length = n := by
    obtain ⟨A', c', hv, _⟩ := h.form
    injection hv with _ hn _
    exact hn.symm
  cases A2 with
  | none => have := hnone rfl; omega
  | some ad =>
    have hrun : ∃ A c w', (Builtin.append_ #[22, 22] o.type #[.slice (some ⟨g, 0, none⟩) n n, .slice (some ad) e.length c2]).run Try.prog w = .ok (.slice A (n + e.length) c) w' ∧ SlO w.heap.size w' (.slice A (d ++ e).length c) (d ++ e) ∧ Fr0 w w' := by
      subst hn
      obtain ⟨v', w', hrun, hown, hgrow⟩ := run_append_arg_grows (P := Try.prog) w 22 o.type 5 i _ 1 1 Try.underlying22 hi hz0 hz1 hz2 rfl (by decide) ⟨g, 0, none⟩ d.length d.length (byts d) (byts_len d)
        (fun j u hu => Rd.news h j u hu) ad e.length c2 (byts e) (byts_len e) (fun j u hu => Rd.news hr j u hu) (by omega) (by unfold maxLen; omega) (by omega)
      obtain ⟨A', c', rfl, -⟩ := own_form hown
      refine ⟨A', c', w', hrun, ?_, Fr.grown (Fr.refl _ _) hgrow (fun k hk => by cases hk)⟩
      rw [← byts_app] at hown
      have hlen : (d ++ e).length = d.length + e.length := List.length_append
      rw [← hlen] at hown
      exact SlO.of_own hown
    obtain ⟨A, c, w', hrun, h1, h2⟩ := hrun
    refine wpList_plain hgd fun K hK' => ?_
    unfold Oper.wp execOp
    simp only [ho, resolve, invoke, builtin, Sem.run_bind, Sem.run_pure, Result.andThen_ok, List.map_toArray, List.map_cons, List.map_nil, hs, hx, hrun]
    exact hK' _ _ (hK A c w' h1 h2)
set_option maxHeartbeats 4000000 in
set_option maxRecDepth 10000 in
theorem rder_bad {v : Value} {m e : Int} {w : World} (hb : m < 1 ∨ 8 < m ∨ e < 1 ∨ 1048576 < e) : Calls Try.prog 13 #[v, .int .i64 m, .int .i64 e] w fun x w' => x = .returned (.tuple #[.agg zK, .int .i64 2]) ∧ Fr0 w w' := by
  have HRUN := Lib.hid (fun W => zK_run W)
  have HIK := Lib.hid (show (Try.prog.info? 34).map (·.size) = some zK.size from key_size _ (by simp))
  have HBK := Lib.hid key_zero
  have hak : zK.all (·.oneCell') = true := byts_all _
  obtain ⟨zk, hzk⟩ : ∃ z, z = zK := ⟨_, rfl⟩
  rw [← hzk] at HRUN HIK HBK hak ⊢
  clear hzk
  by_cases h1 : m < 1
  · clear hb
    go_enter Try.func13, Try.ntmps13
    go_wp2_with (first
      | (refine list_alloc_blk rfl 34 rfl zk HRUN.out ?_; intro g6 w1 hB hF hl; have B1 := Lib.hid hB; have F1 := Lib.hid hF; have L6 := Lib.hid hl; clear hB hF hl)
      | (refine list_build rfl 34 _ rfl zk (by simp [Act.eval, Act.put]; exact HBK.out) ?_)
      | (refine list_store_blk rfl 34 _ _ rfl g6 zk rfl rfl 34 zk B1.out HIK.out rfl hak ?_; intro w2 hB hF))
    refine bodyPost_ret (v := .tuple #[.agg zk, .int .i64 2]) (key_ret rfl hB HIK.out rfl rfl) rfl ⟨rfl, Fr0.new F1.out hF L6.out⟩
  by_cases h2 : 8 < m
  · clear hb
    go_enter Try.func13, Try.ntmps13
    go_wp2_with (first
      | (refine list_alloc_blk rfl 34 rfl zk HRUN.out ?_; intro g6 w1 hB hF hl; have B1 := Lib.hid hB; have F1 := Lib.hid hF; have L6 := Lib.hid hl; clear hB hF hl)
      | (refine list_build rfl 34 _ rfl zk (by simp [Act.eval, Act.put]; exact HBK.out) ?_)
      | (refine list_store_blk rfl 34 _ _ rfl g6 zk rfl rfl 34 zk B1.out HIK.out rfl hak ?_; intro w2 hB hF))
    refine bodyPost_ret (v := .tuple #[.agg zk, .int .i64 2]) (key_ret rfl hB HIK.out rfl rfl) rfl ⟨rfl, Fr0.new F1.out hF L6.out⟩
  by_cases h3 : e < 1
  · clear hb
    go_enter Try.func13, Try.ntmps13
    go_wp2_with (first
      | (refine list_alloc_blk rfl 34 rfl zk HRUN.out ?_; intro g6 w1 hB hF hl; have B1 := Lib.hid hB; have F1 := Lib.hid hF; have L6 := Lib.hid hl; clear hB hF hl)
      | (refine list_build rfl 34 _ rfl zk (by simp [Act.eval, Act.put]; exact HBK.out) ?_)
      | (refine list_store_blk rfl 34 _ _ rfl g6 zk rfl rfl 34 zk B1.out HIK.out rfl hak ?_; intro w2 hB hF))
    refine bodyPost_ret (v := .tuple #[.agg zk, .int .i64 2]) (key_ret rfl hB HIK.out rfl rfl) rfl ⟨rfl, Fr0.new F1.out hF L6.out⟩
  · have h4 : 1048576 < e := by omega
    clear hb
    go_enter Try.func13, Try.ntmps13
    go_wp2_with (first
      | (refine list_alloc_blk rfl 34 rfl zk HRUN.out ?_; intro g6 w1 hB hF hl; have B1 := Lib.hid hB; have F1 := Lib.hid hF; have L6 := Lib.hid hl; clear hB hF hl)
      | (refine list_build rfl 34 _ rfl zk (by simp [Act.eval, Act.put]; exact HBK.out) ?_)
      | (refine list_store_blk rfl 34 _ _ rfl g6 zk rfl rfl 34 zk B1.out HIK.out rfl hak ?_; intro w2 hB hF))
    refine bodyPost_ret (v := .tuple #[.agg zk, .int .i64 2]) (key_ret rfl hB HIK.out rfl rfl) rfl ⟨rfl, Fr0.new F1.out hF L6.out⟩

theorem list_store_part {P : Program} {ops : Array Oper} {rest : List Oper} {o : Oper} {a : Act} {w : World} {Q : Exit → Act → World → Prop} (hgd : o.guard = none) (ty : TypeId) (x y : Operand) (ho : o.op = .store ty x y) (g off : Nat) (cells : Array Value) (hx : a.eval x = .pointer (some ⟨g, off, none⟩)) (hy : a.eval y = .agg cells)
    (t : TypeId) (old : Array Value) (hg : Blk w g old t) (hin : off + cells.size ≤ old.size) (hi : (P.info? ty).map (·.size) = some cells.size) (h1 : cells.all (·.oneCell') = true)
    (h : ∀ W1, Blk W1 g (putAt old off cells.toList) t → Fr1 g w W1 → wpList P ops Q rest (a.put o.dst undef) W1) : wpList P ops Q (o :: rest) a w :=
  wpList_plain hgd fun _ hK => wp_store_part ty x y ho g off cells hx hy t old hg hin hi h1 (fun W1 hB hF => hK _ _ (h W1 hB hF))
end Go.Proofs.Ytjkcbklgddnbdaa
set_option linter.unusedSimpArgs false
namespace Go.Proofs.Ytjkcbklgddnbdaa
open Go.RowKit

set_option maxHeartbeats 1000000 in
set_option maxRecDepth 10000 in
theorem rder_good {v : Value} {master : List UInt8} {w : World} (h : RdB w v master) (hl : master.length ≤ 900000) {m e : Nat} (m1 : 1 ≤ m) (m8 : m ≤ 8) (e1 : 1 ≤ e) (e8 : e ≤ 1048576) :
    Calls Try.prog 13 #[v, .int .i64 m, .int .i64 e] w fun x w' => x = .returned (.tuple #[.agg (byts (keyT master m e)).toArray, .int .i64 0]) ∧ Fr0 w w' := by
  obtain ⟨Av, cv, rfl, -, -, -⟩ := h.form
  have HRUN := Lib.hid (fun W => zK_run W)
  have HR32 := Lib.hid (fun W => z32_run W)
  have HN1 := Lib.hid (fun W => refNum_any m (by omega) W)
  have HN2 := Lib.hid (fun W => refNum_any e (by omega) W)
  have lf1 := form_len_le (n := m) (by omega)
  have lf2 := form_len_le (n := e) (by omega)
  have lp := form_pos m
  have hcv := fun (w : World) (C : Array Value) (n c : Nat) => Lib.run_convert_bytes_const (P := Try.prog) w 22 5 C n c Try.underlying22 Try.underlying5
  have HFE := Lib.hid (show (form m ++ form e).length ≤ 20 by rw [List.length_append]; omega)
  have HFP := Lib.hid (show 0 < (form m ++ form e).length by rw [List.length_append]; omega)
  have HMM := Lib.hid (fun (W : World) (tv : Value) (t : List UInt8) (hf : Fr0 w W) (ht : RdB W tv t) (hl2 : t.length ≤ 800000) => rof_any (h.fr0 hf) hl ht hl2)
  have HKE := Lib.hid (show keyT master m e = (macN master (cCode ++ (form m ++ form e))).take 16 ++ macN master (cMark ++ (form m ++ form e)) from rfl)
  have hik := key_size (keyT master m e) (keyT_len master m e)
  have hok : zK.size = (byts (keyT master m e)).toArray.size := by rw [byts_size, keyT_len]; rfl
  have hak := byts_all (keyT master m e)
  have l1 := macN_len master (cCode ++ (form m ++ form e))
  have l2 := macN_len master (cMark ++ (form m ++ form e))
  obtain ⟨tl, htl⟩ : ∃ t, t = form m ++ form e := ⟨_, rfl⟩
  rw [← htl] at HFE HFP HKE l1 l2
  have HTL := Lib.hid htl
  obtain ⟨cd, hcd⟩ : ∃ d, d = macN master (cCode ++ tl) := ⟨_, rfl⟩
  obtain ⟨mk, hmk⟩ : ∃ d, d = macN master (cMark ++ tl) := ⟨_, rfl⟩
  rw [← hcd] at HKE l1
  rw [← hmk] at HKE l2
  have HCD := Lib.hid hcd
  have HMK0 := Lib.hid hmk
  have l16 : (cd.take 16).length = 16 := by rw [List.length_take, l1]; rfl
  have hi32 := dig_info l1
  have ho32 := z32_size l1
  have ha32 := byts_all cd
  have him := dig_info l2
  have ham := byts_all mk
  obtain ⟨cd16, hcd16⟩ : ∃ d, d = cd.take 16 := ⟨_, rfl⟩
  rw [← hcd16] at HKE l16
  have H16 := Lib.hid hcd16
  have HL16 := Lib.hid l16
  have HL1 := Lib.hid l1
  have HL2 := Lib.hid l2
  obtain ⟨kA, hkA⟩ : ∃ s, s = (byts (keyT master m e)).toArray := ⟨_, rfl⟩
  rw [← hkA] at hik hok hak
  have HKA := Lib.hid hkA
  obtain ⟨sm, hsm⟩ : ∃ s, s = (byts mk).toArray := ⟨_, rfl⟩
  rw [← hsm] at him ham
  have HSM := Lib.hid hsm
  obtain ⟨sc, hsc⟩ : ∃ s, s = (byts cd).toArray := ⟨_, rfl⟩
  rw [← hsc] at hi32 ho32 ha32
  have HSC := Lib.hid hsc
  obtain ⟨zk, hzk⟩ : ∃ z, z = zK := ⟨_, rfl⟩
  obtain ⟨z32, hz32⟩ : ∃ z, z = z32A := ⟨_, rfl⟩
  rw [← hzk] at HRUN hok
  rw [← hz32] at HR32 ho32
  have HZK := Lib.hid hzk
  have HIK := Lib.hid hik
  have HOK := Lib.hid hok
  have HIC := Lib.hid hi32
  have HOC := Lib.hid ho32
  have HIM := Lib.hid him
  obtain ⟨nv, hnv⟩ : ∃ n, n = master.length := ⟨_, rfl⟩
  rw [← hnv] at HMM ⊢
  obtain ⟨n1, hn1⟩ : ∃ n, n = (form m).length := ⟨_, rfl⟩
  obtain ⟨n2, hn2⟩ : ∃ n, n = (form e).length := ⟨_, rfl⟩
  rw [← hn1] at lf1
  rw [← hn2] at lf2
  have HF1 := Lib.hid hn1
  have HF2 := Lib.hid hn2
  have HNT := Lib.hid (show tl.length = n1 + n2 by rw [htl, List.length_append, hn1, hn2])
  obtain ⟨nc, hnc⟩ : ∃ n, n = (cCode ++ tl).length := ⟨_, rfl⟩
  have HNC := Lib.hid hnc.symm
  have HNC4 := Lib.hid (show 4 + tl.length = nc from by rw [hnc, List.length_append]; rfl)
  have HNM := Lib.hid (show (cMark ++ tl).length = nc from by rw [hnc, List.length_append, List.length_append]; rfl)
  have HNL := Lib.hid (show (cCode ++ tl).length ≤ 800000 from by have h1 := HFE.out; rw [List.length_append]; have h2 : cCode.length = 4 := rfl; omega)
  have HNL2 := Lib.hid (show (cMark ++ tl).length ≤ 800000 from by have h1 := HFE.out; rw [List.length_append]; have h2 : cMark.length = 4 := rfl; omega)
  have HNA := Lib.hid (show cCode.length + tl.length ≤ 1000000 from by have h1 := HFE.out; have h2 : cCode.length = 4 := rfl; omega)
  have HNA2 := Lib.hid (show cMark.length + tl.length ≤ 1000000 from by have h1 := HFE.out; have h2 : cMark.length = 4 := rfl; omega)
  clear hnc
  clear h l1 l2 l16 hcd hmk hcd16 hik hok hi32 ho32 him hkA hsm hsc hzk hz32 hnv hn1 hn2 hl htl lp
  go_enter Try.func13, Try.ntmps13
  go_upto_region 5 with (first
    | (have _q := C6; refine list_store_blk rfl 25 _ _ rfl g9 sc rfl rfl 25 z32 C6.out HIC.out HOC.out ha32 ?_; intro w7 hB hF; have C7 := Lib.hid hB; have T7 := Lib.hid ((T6.out).fr1 hF C6.out (by decide)); have B7 := Lib.hid ((B6.out).fr1 hF (fun e => by have := (B5.out).lt; have := L9.out; omega)); have F7 := Lib.hid (Fr0.new F6.out hF (by have := (F5.out).size; have := L9.out; omega)); have L7 := Lib.hid (show g6 < g9 by have := (B5.out).lt; have := L9.out; omega); clear hB hF)
    | (refine list_alloc_blk rfl 34 rfl zk HRUN.out ?_; intro g6 w1 hB hF hl; have B1 := Lib.hid hB; have F1 := Lib.hid hF; have L6 := Lib.hid hl; clear hB hF hl)
    | (have _q := N1; go_at_call 21; refine (HN2.out _).mono ?_; rintro x w3 ⟨v2, rfl, ho, hf⟩; obtain ⟨A2, c2, rfl, -, -, -⟩ := own_form ho; have N1b := Lib.hid ((N1.out).fr0 hf); have N2 := Lib.hid (RdB.of_own ho); have B3 := Lib.hid ((B2.out).fr0 hf); have F3 := Lib.hid (Fr0.trans F2.out hf); have S1b := Lib.hid hf.size; rw [← HF2.out] at N2 ⊢; clear ho hf)
    | (go_at_call 21; refine (HN1.out _).mono ?_; rintro x w2 ⟨v1, rfl, ho, hf⟩; obtain ⟨A1, c1, rfl, -, -, -⟩ := own_form ho; have N1 := Lib.hid (SlO.of_own ho); have B2 := Lib.hid ((B1.out).fr0 hf); have F2 := Lib.hid (Fr0.trans F1.out hf); have S1 := Lib.hid hf.size; rw [← HF1.out] at N1 ⊢; clear ho hf)
    | (have _q := T4; refine list_append_lit (n := 4) (d := cCode) (e := tl) rfl _ _ rfl (lit_at (w := w4) rfl cCode rfl (by decide) (4, 5)) rfl ((T4.out).rd.fr0 ((Fr0.refl w4).alloc _)) rfl HFP.out HNA.out ?_; intro A5 c5 w4b hS hF; rw [HNC.out] at hS; have P5 := Lib.hid hS; have fa := Fr0.trans ((Fr0.refl w4).alloc (.cells (byts cCode).toArray 5 (4, 5))) hF; have T4b := Lib.hid ((T4.out).fr0 fa); have B4b := Lib.hid ((B4.out).fr0 fa); have F4b := Lib.hid (Fr0.trans F4.out fa); rw [show 4 + tl.length = nc from HNC4.out]; clear hS hF fa)
    | (refine list_append_sl (base := w1.heap.size) (d := form m) (e := form e) rfl _ _ rfl N1b.out rfl (Nat.le_trans S1.out S1b.out) N2.out rfl (by rw [← HF1.out, ← HF2.out]; omega) ?_; intro A4 c4 w4 hS hF hK; have T4 := Lib.hid (show SlO w1.heap.size w4 (.slice A4 tl.length c4) tl from by rw [HTL.out]; exact hS); have B4 := Lib.hid ((B3.out).fr hF (fun hk => (N1b.out).ne B3.out (by decide) _ hk rfl)); have F4 := Lib.hid (Fr.then F3.out hF (fun i hi hlt => absurd ((N1b.out).lo i hi).1 (by have := (F1.out).size; omega))); rw [show (form m).length + (form e).length = tl.length from by rw [HTL.out, List.length_append]]; clear hS hF hK)
    | (go_at_call 9; refine (HMM.out _ _ (cCode ++ tl) F4b.out (P5.out).rd HNL.out).mono ?_; rintro x w5 ⟨he, hf⟩; rw [← HCD.out, ← HSC.out] at he; subst he; have T5 := Lib.hid ((T4b.out).fr0 hf); have B5 := Lib.hid ((B4b.out).fr0 hf); have F5 := Lib.hid (Fr0.trans F4b.out hf); clear hf)
    | (refine list_alloc_blk rfl 25 rfl z32 HR32.out ?_; intro g9 w6 hB hF hl; have C6 := Lib.hid hB; have T6 := Lib.hid ((T5.out).fr0 hF); have B6 := Lib.hid ((B5.out).fr0 hF); have F6 := Lib.hid (Fr0.trans F5.out hF); have L9 := Lib.hid hl; clear hB hF hl))
  have lAA : (cd16 ++ List.replicate 32 (0 : UInt8)).length = 48 := by rw [List.length_append, HL16.out, List.length_replicate]
  have HPUT := Lib.hid (show putAt (byts (cd16 ++ List.replicate 32 (0 : UInt8))).toArray 16 (byts mk) = kA from by
    have h1 := putAt_zeros (n := 48) (d := cd16) (by rw [HL16.out]; decide)
    rw [HL16.out] at h1
    have h2 := putAt_two zK (byts cd16) (byts mk) (by rw [byts_len, byts_len, HL16.out, HL2.out]; rfl)
    rw [byts_len, HL16.out] at h2
    rw [HKA.out, HKE.out, ← byts_app] at *
    rw [← h1]
    exact h2)
  have HGA := Lib.hid (fun i (hi : i < 16) => show (cd16 ++ List.replicate 32 (0 : UInt8)).getD i 0 = cd.getD i 0 from by
    have h1 : i < cd16.length := by rw [HL16.out]; exact hi
    have h2 : i < cd.length := by rw [HL1.out]; omega
    rw [H16.out] at h1 ⊢
    simp only [List.getD, List.getElem?_append_left h1, List.getElem?_take]
    rw [if_pos hi])
  have HZZ := Lib.hid (show zk = (byts (List.replicate 48 (0 : UInt8))).toArray from HZK.out)
  obtain ⟨AA, hAA⟩ : ∃ a, a = cd16 ++ List.replicate 32 (0 : UInt8) := ⟨_, rfl⟩
  obtain ⟨ZZ, hZZ⟩ : ∃ a, a = List.replicate 48 (0 : UInt8) := ⟨_, rfl⟩
  have LZ := Lib.hid (show ZZ.length = 48 by rw [hZZ, List.length_replicate])
  have HD16 := Lib.hid (show (cd16 ++ List.replicate 32 (0 : UInt8)).take 16 ++ (List.replicate 48 (0 : UInt8)).drop 16 = cd16 ++ List.replicate 32 (0 : UInt8) from by
    rw [List.take_append_of_le_length (by rw [HL16.out]; exact Nat.le_refl _), List.take_of_length_le (by rw [HL16.out]; exact Nat.le_refl _), List.drop_replicate])
  rw [← hAA] at HPUT HGA lAA HD16
  rw [← hZZ] at HZZ HD16
  have LA := Lib.hid lAA
  clear hAA hZZ lAA
  go_upto_region 6 with (refine list_alloc_blk rfl 34 rfl zk HRUN.out ?_; intro g10 w8 hB hF hl; have K8 := Lib.hid hB; have C8 := Lib.hid ((C7.out).fr0 hF); have T8 := Lib.hid ((T7.out).fr0 hF); have B8 := Lib.hid ((B7.out).fr0 hF); have F8 := Lib.hid (Fr0.trans F7.out hF); have L10 := Lib.hid hl; clear hB hF hl)
  have hg9 : g9 < g10 := by have := (C7.out).lt; have := L10.out; omega
  have hg6 : g6 < g10 := by have := L7.out; omega
  have hwg : w.heap.size ≤ g10 := by have := L6.out; omega
  go_wp2_with fail
  go_loopw [11] (fun v11 wr => ∃ i : Nat, i ≤ 16 ∧ v11 = .int .i64 i ∧ Blk wr g10 (byts (AA.take i ++ ZZ.drop i)).toArray 34 ∧ Blk wr g9 sc 25 ∧ Blk wr g6 zk 34 ∧ SlO w1.heap.size wr (.slice A4 tl.length c4) tl ∧ Fr0 w wr) (fun v11 _ => 16 - (intOf v11).toNat)
  case atStart => exact ⟨0, by omega, rfl, by have h := K8.out; rw [HZZ.out] at h; exact h, C8.out, B8.out, T8.out, F8.out⟩
  case round =>
    obtain ⟨i, hi, rfl, hK, hC, hB, hT, hF⟩ := hrel
    have TC := Lib.hid hC
    have TB := Lib.hid hB
    have TT := Lib.hid hT
    have TF := Lib.hid hF
    by_cases hlt : i < 16
    · have i0 : (0 : Int) ≤ (i : Int) := by omega
      have i1 : (i : Int) < 16 := by omega
      have d9 := hC.cell i (v := .int .u8 ((cd.getD i 0).toNat : Int)) (by rw [HSC.out, List.getElem?_toArray, byts_at _ i (by rw [HL1.out]; omega)]; simp [List.getD, HL1.out, show i < 32 by omega])
      obtain ⟨u6, e6⟩ : ∃ u6, wr.cell? ⟨g10, i, none⟩ = some u6 := ⟨_, hK.cell i (Array.getElem?_eq_getElem (by rw [byts_size, List.length_append, List.length_take, List.length_drop, LA.out, LZ.out]; omega))⟩
      have f6 := hK.free i
      have HN := Lib.hid (show Blk (wr.setCell ⟨g10, i, none⟩ (.int .u8 ((cd.getD i 0).toNat : Int))) g10 (byts (AA.take (i + 1) ++ ZZ.drop (i + 1))).toArray 34 from by
        have h := hK.set i (.int .u8 ((AA.getD i 0).toNat : Int))
        rw [bhalf_set LA.out LZ.out (by omega)] at h
        rw [← (HGA.out) i hlt]
        exact h)
      obtain ⟨ci, hci⟩ : ∃ c, c = cd.getD i 0 := ⟨_, rfl⟩
      rw [← hci] at d9 HN
      clear hci hK hC hB hT hF
      go_wp2_with fail
      go_roundw
      case measure => simp [intOf]; omega
      case rel =>
        have fr := (Fr1.refl g10 wr).set i (.int .u8 (ci.toNat : Int))
        exact ⟨i + 1, by omega, by go_num, HN.out, (TC.out).fr1 fr (by omega), (TB.out).fr1 fr (by omega), (TT.out).fr fr (fun k hk hq => by have h1 := (T7.out).lo k hk; have h2 := L10.out; omega), Fr0.new TF.out fr hwg⟩
    · obtain rfl : i = 16 := by omega
      have hd := HD16.out
      rw [hd] at hK
      have TK := Lib.hid hK
      have hsa : (byts AA).toArray.size = 48 := by rw [byts_size, LA.out]
      have hsm2 : sm.size = 32 := by rw [HSM.out, byts_size, HL2.out]
      have HSA := Lib.hid hsa
      have HSM2 := Lib.hid hsm2
      obtain ⟨aA, haA⟩ : ∃ x, x = (byts AA).toArray := ⟨_, rfl⟩
      rw [← haA] at TK HSA HPUT
      clear hd hK hC hB hT hF hsa hsm2 haA hlt hi
      go_wp2_with (first
        | (have _q := K11; refine list_store_part rfl 25 _ _ rfl g10 16 sm rfl rfl 34 aA K11.out (by rw [HSM2.out, HSA.out]; decide) HIM.out ham ?_; intro w12 hB hF; have K12 := Lib.hid (show Blk w12 g10 kA 34 from by have h := hB; rw [show sm.toList = byts mk from by rw [HSM.out]] at h; rw [HPUT.out] at h; exact h); have B12 := Lib.hid ((B11.out).fr1 hF (by omega)); have F12 := Lib.hid (Fr0.new F11.out hF hwg); clear hB hF)
        | (refine list_append_lit (n := 4) (d := cMark) (e := tl) rfl _ _ rfl (lit_at (w := wr) rfl cMark rfl (by decide) (4, 5)) rfl ((TT.out).rd.fr0 ((Fr0.refl wr).alloc _)) rfl HFP.out HNA2.out ?_; intro A10 c10 w10 hS hF; rw [HNM.out] at hS; have P10 := Lib.hid hS; have fa := Fr0.trans ((Fr0.refl wr).alloc (.cells (byts cMark).toArray 5 (4, 5))) hF; have K10 := Lib.hid ((TK.out).fr0 fa); have B10 := Lib.hid ((TB.out).fr0 fa); have F10 := Lib.hid (Fr0.trans TF.out fa); rw [show 4 + tl.length = nc from HNC4.out]; clear hS hF fa)
        | (go_at_call 9; refine (HMM.out _ _ (cMark ++ tl) F10.out (P10.out).rd HNL2.out).mono ?_; rintro x w11 ⟨he, hf⟩; rw [← HMK0.out, ← HSM.out] at he; subst he; have K11 := Lib.hid ((K10.out).fr0 hf); have B11 := Lib.hid ((B10.out).fr0 hf); have F11 := Lib.hid (Fr0.trans F10.out hf); clear hf)
        | (refine list_load_blk rfl 34 _ rfl g10 rfl 34 kA K12.out _ Try.underlying34 rfl HIK.out ?_)
        | (refine list_store_blk rfl 34 _ _ rfl g6 kA rfl rfl 34 zk B12.out HIK.out HOK.out hak ?_; intro w13 hB hF))
      refine bodyPost_ret (v := .tuple #[.agg kA, .int .i64 0]) (key_ret rfl hB HIK.out rfl rfl) rfl ⟨by rw [HKA.out], Fr0.new F12.out hF L6.out⟩
end Go.Proofs.Ytjkcbklgddnbdaa
set_option linter.unusedSimpArgs false
namespace Go.Proofs.Ytjkcbklgddnbdaa
open Go.RowKit

theorem key_guard (op : BinOp) (x y : Operand) (xs ys : Array Value) (w : World) : (eqGuard op 34 x y (.agg xs) (.agg ys)).run Try.prog w = .ok () w := run_eqGuard_agg w _ _ _ _ _ _ (by kernel_rfl)
set_option maxHeartbeats 1000000 in
set_option maxRecDepth 10000 in
/-- Both answers are one, whatever it is: the law returns true. -/
theorem lkeys_with {v : Value} {nv cv : Nat} {A : Option Addr} {m e c : Int} {a b : List UInt8} {w : World} (hv : v = .slice A nv cv) (hn : nv ≤ 100) (ha : a.length = 16) (hb : b.length = 32)
    (H1 : ∀ W, Fr0 w W → Calls Try.prog 12 #[v, .int .i64 m, .int .i64 e] W fun x w' => x = .returned (.tuple #[.agg (byts (a ++ b)).toArray, .int .i64 c]) ∧ Fr0 W w')
    (H2 : ∀ W, Fr0 w W → Calls Try.prog 13 #[v, .int .i64 m, .int .i64 e] W fun x w' => x = .returned (.tuple #[.agg (byts (a ++ b)).toArray, .int .i64 c]) ∧ Fr0 W w') :
    Calls Try.prog 6 #[v, .int .i64 m, .int .i64 e] w fun x w' => x = .returned (.bool true) ∧ Fr0 w w' := by
  subst hv
  have HKN := Lib.hid (fun W => known03_any W)
  have HRUN := Lib.hid (fun W => zK_run W)
  have l48 : (a ++ b).length = 48 := by rw [List.length_append, ha, hb]
  have hik := key_size (a ++ b) l48
  have hok : zK.size = (byts (a ++ b)).toArray.size := by rw [byts_size, l48]; rfl
  have hak := byts_all (a ++ b)
  have HE := Lib.hid (fun W => key_eql ha hb W)
  obtain ⟨kA, hkA⟩ : ∃ s, s = (byts (a ++ b)).toArray := ⟨_, rfl⟩
  rw [← hkA] at H1 H2 hik hok hak HE
  obtain ⟨zk, hzk⟩ : ∃ z, z = zK := ⟨_, rfl⟩
  rw [← hzk] at HRUN hok
  have HIK := Lib.hid hik
  have HOK := Lib.hid hok
  have G1 := Lib.hid H1
  have G2 := Lib.hid H2
  have hn2 : (nv : Int) ≤ 100 := by omega
  have hc : (c == c) = true := by simp
  clear H1 H2 hik hok hkA hzk l48 ha hb
  go_enter Try.func6, Try.ntmps6
  go_wp2_with (first
    | (go_at_call 7; refine (HKN.out _).mono ?_; rintro x w1 ⟨rfl, hf⟩; have F1 := Lib.hid hf; clear hf)
    | (go_at_call 12; refine (G1.out _ F1.out).mono ?_; rintro x w2 ⟨rfl, hf⟩; have F2 := Lib.hid (Fr0.trans F1.out hf); clear hf)
    | (have _q := B4; refine list_alloc_blk rfl 34 rfl zk HRUN.out ?_; intro g9 w6 hB hF hl; have C6 := Lib.hid hB; have B6 := Lib.hid ((B5.out).fr0 hF); have F6 := Lib.hid (Fr0.trans F5.out hF); have L9 := Lib.hid hl; clear hB hF hl)
    | (refine list_alloc_blk rfl 34 rfl zk HRUN.out ?_; intro g7 w3 hB hF hl; have B3 := Lib.hid hB; have F3 := Lib.hid (Fr0.trans F2.out hF); have L7 := Lib.hid (Nat.le_trans (F2.out).size hl); clear hB hF hl)
    | (have _q := C6; refine list_store_blk rfl 34 _ _ rfl g9 kA rfl rfl 34 zk C6.out HIK.out HOK.out hak ?_; intro w7 hB hF; have C7 := Lib.hid hB; have B7 := Lib.hid ((B6.out).fr1 hF (fun e => by have := (B5.out).lt; have := L9.out; omega)); have F7 := Lib.hid (Fr0.new F6.out hF (by have := (F5.out).size; have := L9.out; omega)); clear hB hF)
    | (refine list_store_blk rfl 34 _ _ rfl g7 kA rfl rfl 34 zk B3.out HIK.out HOK.out hak ?_; intro w4 hB hF; have B4 := Lib.hid hB; have F4 := Lib.hid (Fr0.new F3.out hF L7.out); clear hB hF)
    | (go_at_call 13; refine (G2.out _ F4.out).mono ?_; rintro x w5 ⟨rfl, hf⟩; have B5 := Lib.hid ((B4.out).fr0 hf); have F5 := Lib.hid (Fr0.trans F4.out hf); clear hf)
    | (refine list_load_blk rfl 34 _ rfl g7 rfl 34 kA B7.out _ Try.underlying34 rfl HIK.out ?_)
    | (refine list_load_blk rfl 34 _ rfl g9 rfl 34 kA C7.out _ Try.underlying34 rfl HIK.out ?_)
    | (refine list_binop rfl .eql 34 _ _ _ rfl _ _ _ rfl rfl (key_guard _ _ _ _ _ _) (HE.out _) ?_))
  go_ret
  exact ⟨rfl, F7.out⟩
theorem lkeys_any {v : Value} {master : List UInt8} {w : World} (m e : Int) (h : RdB w v master) : Calls Try.prog 6 #[v, .int .i64 m, .int .i64 e] w fun x w' => x = .returned (.bool true) ∧ Fr0 w w' := by
  obtain ⟨Av, cv, rfl, h1, h2, -⟩ := h.form
  unfold maxLen at h2
  by_cases hl : master.length ≤ 100
  · by_cases hok : 1 ≤ m ∧ m ≤ 8 ∧ 1 ≤ e ∧ e ≤ 1048576
    · obtain ⟨m', rfl⟩ : ∃ k : Nat, m = k := ⟨m.toNat, by omega⟩
      obtain ⟨e', rfl⟩ : ∃ k : Nat, e = k := ⟨e.toNat, by omega⟩
      have l1 := macN_len master (cCode ++ (form m' ++ form e'))
      exact lkeys_with (a := (macN master (cCode ++ (form m' ++ form e'))).take 16) (b := macN master (cMark ++ (form m' ++ form e'))) (c := 0) rfl hl (by rw [List.length_take, l1]; rfl) (macN_len _ _) 
        (fun W hf => der_good (h.fr0 hf) (by omega) (by omega) (by omega) (by omega) (by omega))
        (fun W hf => rder_good (h.fr0 hf) (by omega) (by omega) (by omega) (by omega) (by omega))
    · have hb : m < 1 ∨ 8 < m ∨ e < 1 ∨ 1048576 < e := by omega
      have hz : zK = (byts (List.replicate 16 (0 : UInt8) ++ List.replicate 32 0)).toArray := rfl
      exact lkeys_with (a := List.replicate 16 0) (b := List.replicate 32 0) (c := 2) rfl hl (by simp) (by simp) 
        (fun W _ => by rw [← hz]; exact der_bad hb) (fun W _ => by rw [← hz]; exact rder_bad hb)
  · have HKN := Lib.hid (fun W => known03_any W)
    obtain ⟨nv, hnv⟩ : ∃ n, n = master.length := ⟨_, rfl⟩
    rw [← hnv] at hl h1 ⊢
    have hgt : (100 : Int) < (nv : Int) := by omega
    clear h hnv hl
    go_enter Try.func6, Try.ntmps6
    go_wp2_with (go_at_call 7; refine (HKN.out _).mono ?_; rintro x w1 ⟨rfl, hf⟩; have F1 := Lib.hid hf; clear hf)
    go_ret
    exact ⟨rfl, F1.out⟩
namespace MacKeys
open Go.ChangeShapes Go.WideShapes Go.ChangeAt
open Go.ChangeMaps (open_string shut_string)

theorem own : ownKnob Try.prog.godebug = none := by kernel_rfl
theorem laidOut : laidOutB Try.prog = true := by kernel_rfl

set_option maxRecDepth 100000 in
theorem lifted (os : Os) (started : os.Started) (H : Type) (enc : TypeId × Value → H) :
    ReturnsInHanded {} Try.checked os 6 .any (Rows.macKeysSpec.pre6 enc Try.prog Try.f6 Rows.macKeysRow.domain false) (Rows.macKeysSpec.post enc Try.prog Try.f6 false true false false) := by
  refine returnsInHanded_of_change (C := Try.checked) own started (by kernel_rfl) Try.func6
    (ChangeSpec.witness6 (enc := enc) (C := Try.checked) false ⟨#[], #[.slice none 0 0, .int .i64 0, .int .i64 0], []⟩ 8 (by kernel_rfl) (by kernel_rfl) (by kernel_rfl) (by kernel_rfl)) ?_
  intro W base args ds gs before hval0 hW hcnd _
  have hval : ∀ (j : Nat) t v, Try.f6.params[j]? = some t → args[j]? = some v → Value.okWide Try.prog W .any base t v := hval0
  have hW' := hW
  obtain ⟨p, q, hA0, hV, rfl, hfz, hnd⟩ := hW
  have hA : DataW.TrodAll enc Try.prog W 0 (fun _ => true) true Try.f6.params.toList args.toList ds p := hA0
  rw [Try.params6] at hA hval
  obtain ⟨v0, vs0, d0', ds0, p0, q0, hargs, rfl, rfl, h0, r0⟩ := trodAll_cons hA
  obtain ⟨v1, vs1, d1', ds1, p1, q1, rfl, rfl, rfl, h1, r1⟩ := trodAll_cons r0
  obtain ⟨v2, vs2, d2', ds2, p2, q2, rfl, rfl, rfl, h2, r2⟩ := trodAll_cons r1
  obtain ⟨rfl, rfl, rfl⟩ := trodAll_nil r2
  obtain rfl : args = #[v0, v1, v2] := by cases args; simp_all
  obtain ⟨rfl, rfl⟩ := trodVars_none hV
  have k0 := h0
  have lt0 : ∀ x ∈ p0, x.block < W.heap.size := by obtain ⟨m, hm⟩ := k0; exact DataW.trod_lt m _ _ _ hm
  obtain ⟨A0, n0, c0, rfl⟩ := okWide_slice Try.underlying22 (hval 0 22 v0 rfl rfl)
  obtain ⟨fuel0, hf0⟩ := h0
  obtain ⟨d0, hy0⟩ := arg_bytes Try.underlying22 Try.underlying5 (by kernel_rfl) hf0
  obtain ⟨n1, rfl, rfl, rfl, hn1⟩ := open_int Try.underlying3 (hval 1 3 v1 rfl rfl) h1
  have hm1 := lit_i64 hn1
  obtain ⟨n2, rfl, rfl, rfl, hn2⟩ := open_int Try.underlying3 (hval 2 3 v2 rfl rfl) h2
  have hm2 := lit_i64 hn2
  clear hA0 hval0
  refine (lkeys_any n1 n2 hy0).mono fun e W' ⟨he, hfr⟩ => ?_
  have bel : Below W.heap.size W W' := Fr0.below hfr
  subst he
  exact ⟨_, rfl, _, _, _, [], _, [], hW', trodAll_mk1 (shut_bool Try.underlying4 _), (trodAll_cons_mk (Below.trod laidOut (by kernel_rfl) (of_decide_eq_true (by kernel_rfl)) k0 bel lt0) (trodAll_cons_mk (shut_int Try.underlying3 hn1) (trodAll_cons_mk (shut_int Try.underlying3 hn2) trodAll_mk0))), rfl, bel.frame _, fun h => by cases h⟩

theorem over : Rows.macKeysRow.holds Try.pinned (OpenSpec.ofChange Rows.macKeysSpec) :=
  OpenClaim.holds_of_wide 6 Try.f6 rfl rfl rfl rfl rfl rfl rfl ⟨rfl, rfl, rfl, rfl, rfl⟩ rfl rfl rfl rfl rfl (by kernel_rfl) Try.func6 (by kernel_rfl)
    (of_decide_eq_true (by kernel_rfl)) (by unfold Func.isWrapper; first | (rw [if_pos (by decide +kernel)]; kernel_rfl) | (rw [if_neg (by decide +kernel)]; exact ⟨rfl, rfl⟩))
    (fun os started H enc _ => lifted os started H enc)

theorem proved : Rows.MacKeysSaid := over
#print axioms proved
end MacKeys
end Go.Proofs.Ytjkcbklgddnbdaa
