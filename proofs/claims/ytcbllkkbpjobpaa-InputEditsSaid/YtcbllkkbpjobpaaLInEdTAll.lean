/- The end of InputEdits: what is told is written over, and the stream stays. Conditions stand in the statements. -/
import Derived.Test.YtcbllkkbpjobpaaInApply
import Derived.Test.YtcbllkkbpjobpaaOwn
import Derived.Lib.SlBytesConst
import Derived.Test.YtcbllkkbpjobpaaInCut
import Derived.Test.YtcbllkkbpjobpaaInAdd
import Derived.Test.YtcbllkkbpjobpaaArgsOf
import Derived.Test.YtcbllkkbpjobpaaStepsG
import Derived.Test.YtcbllkkbpjobpaaInRef
import Derived.Test.YtcbllkkbpjobpaaInRef2
import Derived.Test.YtcbllkkbpjobpaaWLits
set_option linter.unusedVariables false
set_option linter.unusedSimpArgs false
namespace Go.Proofs.Ytcbllkkbpjobpaa
open Go.RowKit

theorem form_lt (n : Nat) (h : n < 128) : form n = [UInt8.ofNat n] := by
  unfold form
  rw [show n / 128 = 0 by omega, hi_zero, show n % 128 = n by omega]; rfl
def d0 : Dd := ⟨1, [97, 98], 0, 0⟩
theorem f0 : formD d0 = [1, 2, 97, 98] := by
  unfold formD d0 textForm
  simp only [if_true]
  rw [show (1 : Int).toNat = 1 from rfl, form_lt 1 (by decide), show ([97, 98] : List UInt8).length = 2 from rfl, form_lt 2 (by decide)]
  rfl
theorem kA : addP 0 [] d0 = (0, [d0], 0) := by decide
theorem kC : cutP 0 [d0] 1 = (1, [], 0) := by decide
theorem kD : diffP 0 [] 0 [d0] = ([1, 2, 97, 98], 0) := by
  have h : diffP 0 [] 0 [d0] = (formsD (sinceL 0 [d0] (cntS 0 [])), 0) := by unfold diffP; rw [if_pos (by decide)]
  rw [h, show sinceL 0 [d0] (cntS 0 []) = [d0] by decide]
  unfold formsD
  simp [f0]
theorem kR : dRead [3, 4] = some [⟨3, [], 0, 0⟩, ⟨4, [], 0, 0⟩] := by decide
theorem kP : applyP 0 [] [3, 4] = (0, [⟨3, [], 0, 0⟩, ⟨4, [], 0, 0⟩], 0) := by
  unfold applyP
  rw [kR]
  decide
theorem k1_any (w : World) : Calls Try.prog 11 #[.agg #[.int .i64 0, .slice none 0 0], .agg #[.int .i64 1, .slice (some ⟨w.heap.size, 0, none⟩) 2 2, .int .i64 0, .int .i64 0]] (w.alloc (.cells #[.int .u8 97, .int .u8 98] 5 (2, 3))) fun e w' =>
    ∃ B c, e = .returned (.tuple #[.agg #[.int .i64 0, .slice B 1 c], .int .i64 0]) ∧ Ds w' (.slice B 1 c) [d0] ∧ Fr0 w w' := by
  have h := add_any (b := 0) (A := none) (c := 0) (l := []) (d := d0) (Bd := some ⟨w.heap.size, 0, none⟩) (ed := 2) (Ds.nil (w.alloc (.cells #[.int .u8 97, .int .u8 98] 5 (2, 3)))) (lit_bytes w 5 [97, 98] (by decide) (2, 3))
  refine Calls.mono h ?_
  rintro e w' ⟨B, c, he, hd, hf⟩
  rw [kA] at he hd
  exact ⟨B, c, he, hd.ds (fun v t h => h.rd), Fr0.trans ((Fr0.refl w).alloc _) hf⟩
theorem k2_any {B : Option Addr} {c : Nat} {w : World} (h : Ds w (.slice B 1 c) [d0]) : Calls Try.prog 12 #[.agg #[.int .i64 0, .slice B 1 c], .int .i64 1] w fun e w' => ∃ B' c', e = .returned (.tuple #[.agg #[.int .i64 1, .slice B' 0 c'], .int .i64 0]) ∧ Fr0 w w' := by
  refine (cut_any (b := 0) (m := 1) h (by decide)).mono ?_
  rintro e w' ⟨B', c', he, hd, hf⟩
  rw [kC] at he
  exact ⟨B', c', he, hf⟩
theorem k3_any {B : Option Addr} {c : Nat} {w : World} (h : Ds w (.slice B 1 c) [d0]) : Calls Try.prog 18 #[.agg #[.int .i64 0, .slice none 0 0], .agg #[.int .i64 0, .slice B 1 c]] w fun e w' => ∃ B' c', e = .returned (.tuple #[.slice B' 4 c', .int .i64 0]) ∧ RdB w' (.slice B' 4 c') [1, 2, 97, 98] ∧ Fr0 w w' := by
  refine (diff_any (b1 := 0) (b2 := 0) (l1 := []) (Ds.nil w) h).mono ?_
  rintro e w' ⟨B', c', he, hd, hf⟩
  rw [kD] at he hd
  exact ⟨B', c', he, hd, hf⟩
theorem k4_any (w : World) : Calls Try.prog 19 #[.agg #[.int .i64 0, .slice none 0 0], .slice (some ⟨w.heap.size, 0, none⟩) 2 2] (w.alloc (.cells #[.int .u8 3, .int .u8 4] 5)) fun e w' =>
    ∃ B c, e = .returned (.tuple #[.agg #[.int .i64 0, .slice B 2 c], .int .i64 0]) ∧ Ds w' (.slice B 2 c) [⟨3, [], 0, 0⟩, ⟨4, [], 0, 0⟩] ∧ Fr0 w w' := by
  have h := apply_any (b := 0) (A := none) (c := 0) (l := []) (D := [3, 4]) (Ds.nil (w.alloc (.cells #[.int .u8 3, .int .u8 4] 5))) (lit_bytes w 5 [3, 4] (by decide) (0, 0)) (by decide)
  refine Calls.mono h ?_
  rintro e w' ⟨B, c, he, hd, hf⟩
  rw [kP] at he hd
  exact ⟨B, c, he, hd.ds (fun v t h => h.rd), Fr0.trans ((Fr0.refl w).alloc _) hf⟩
theorem k5_any {B : Option Addr} {c : Nat} {w : World} (h : Ds w (.slice B 1 c) [d0]) : Calls Try.prog 23 #[.agg #[.int .i64 0, .slice B 1 c]] w fun e w' => e = .returned (.int .i64 1) ∧ Fr0 w w' := count_any (b := 0) h
set_option maxHeartbeats 4000000 in
set_option maxRecDepth 100000 in
theorem known21_any (w : World) : Calls Try.prog 8 #[] w fun e w' => e = .returned (.bool true) ∧ Fr0 w w' := by
  have hcv := fun (w : World) (C : Array Value) (n c : Nat) => Lib.run_convert_bytes_const (P := Try.prog) w 26 5 C n c Try.underlying26 Try.underlying5
  have q1 : ((str [1, 2, 97, 98]).toList == [1, 2, 97, 98]) = true := by rw [ByteArray.toList_eq]; rfl
  go_enter Try.func8, Try.ntmps8
  go_wp2_with (first
    | (go_at_call 11; refine (k1_any w).mono ?_; rintro e w1 ⟨B1, c1, rfl, hd, hf⟩; have F1 := Lib.hid (hf.alloc (.cells #[.int .i64 0, .slice B1 1 c1] 24)); have D1 := Lib.hid (hd.fr0 ((Fr0.refl w1).alloc (.cells #[.int .i64 0, .slice B1 1 c1] 24))); have X1 := Lib.hid (Blk.new w1 #[.int .i64 0, .slice B1 1 c1] 24); clear hd hf)
    | (go_at_call 12; refine (k2_any D1.out).mono ?_; rintro e w2 ⟨B2, c2, rfl, hf⟩; have G2 := hf.alloc (.cells #[.int .i64 1, .slice B2 0 c2] 24); have F2 := Lib.hid (Fr0.trans F1.out G2); have D2 := Lib.hid ((D1.out).fr0 G2); have X2 := Lib.hid ((X1.out).fr0 G2); have Y2 := Lib.hid (Blk.new w2 #[.int .i64 1, .slice B2 0 c2] 24); have s0 := ((X1.out).fr0 G2).cell 0 rfl; have s1 := ((X1.out).fr0 G2).cell 1 rfl; clear hf G2)
    | (go_at_call 18; refine (k3_any D2.out).mono ?_; rintro e w3 ⟨B3, c3, rfl, hr, hf⟩; have F3 := Lib.hid (Fr0.trans F2.out hf); have D3 := Lib.hid ((D2.out).fr0 hf); have X3 := Lib.hid ((X2.out).fr0 hf); have Y3 := Lib.hid ((Y2.out).fr0 hf); have R3 := Lib.hid hr; clear hf hr)
    | (go_at_call 19; refine (k4_any w3).mono ?_; rintro e w4 ⟨B4, c4, rfl, hd, hf⟩; have G4 := hf.alloc (.cells #[.int .i64 0, .slice B4 2 c4] 24); have F4 := Lib.hid (Fr0.trans F3.out G4); have D4 := Lib.hid ((D3.out).fr0 G4); have X4 := Lib.hid ((X3.out).fr0 G4); have Y4 := Lib.hid ((Y3.out).fr0 G4); have R4 := Lib.hid ((R3.out).fr0 G4); have Z4 := Lib.hid (Blk.new w4 #[.int .i64 0, .slice B4 2 c4] 24); have E4 := Lib.hid (hd.fr0 ((Fr0.refl w4).alloc (.cells #[.int .i64 0, .slice B4 2 c4] 24))); have u0 := (X4.out).cell 0 rfl; have u1 := (X4.out).cell 1 rfl; clear hf hd G4)
    | (go_at_call 23; refine (k5_any D4.out).mono ?_; rintro e w5 ⟨rfl, hf⟩; have F5 := Lib.hid (Fr0.trans F4.out hf); have v0 := ((Y4.out).fr0 hf).cell 0 rfl; have v1 := ((Y4.out).fr0 hf).cell 1 rfl; have v2 := ((Z4.out).fr0 hf).cell 1 rfl; have hcv3 := conv_ownN (n := 4) rfl ((R4.out).fr0 hf); obtain ⟨gE, oE, BE, eE, rfl, hlt, -, t0, -, -, -, -⟩ := ((E4.out).fr0 hf).cell (i := 1) (by decide); replace t0 : w5.cell? ⟨gE, oE + 4, none⟩ = some (.int .i64 4) := t0; clear hf))
  go_ret
  exact ⟨rfl, F5.out⟩
end Go.Proofs.Ytcbllkkbpjobpaa
set_option linter.unusedVariables false
set_option linter.unusedSimpArgs false
namespace Go.Proofs.Ytcbllkkbpjobpaa
open Go.RowKit

def smallT (x : Dd) : Bool := decide (x.t.length ≤ 100)
def greatS (l : List Dd) : Bool := decide (80 < l.length) || !(l.all smallT)
theorem greatS_no {l : List Dd} (h : greatS l = false) : l.length ≤ 80 ∧ ∀ x ∈ l, x.t.length ≤ 100 := by
  unfold greatS at h
  rw [Bool.or_eq_false_iff, decide_eq_false_iff_not, Bool.not_eq_false', List.all_eq_true] at h
  exact ⟨by omega, fun x hx => by have := h.2 x hx; unfold smallT at this; simpa using this⟩
set_option maxHeartbeats 4000000 in
theorem great_any {b : Int} {A : Option Addr} {c : Nat} {l : List Dd} {w : World} (h : Ds w (.slice A l.length c) l) :
    Calls Try.prog 9 #[.agg #[.int .i64 b, .slice A l.length c]] w fun e w' => e = .returned (.bool (greatS l)) ∧ Fr0 w w' := by
  have l63 := h.le63
  have FX := Lib.hid ((Fr0.refl w).alloc (.cells #[.int .i64 b, .slice A l.length c] 24))
  have BX := Lib.hid (Blk.new w #[.int .i64 b, .slice A l.length c] 24)
  have H := Lib.hid h
  have HP := Lib.hid (show greatS l = (decide (80 < l.length) || !(l.all smallT)) from rfl)
  obtain ⟨n, hn⟩ : ∃ n, n = l.length := ⟨_, rfl⟩
  obtain ⟨r, hr⟩ : ∃ n, n = greatS l := ⟨_, rfl⟩
  rw [← hn] at l63 FX BX H HP ⊢
  rw [← hr] at HP ⊢
  have HN := Lib.hid hn
  clear hn hr h
  by_cases h3 : 80 < n
  · have b3 : decide (80 < (n : Int)) = true := by simp; omega
    have b4 : decide (80 < n) = true := by simpa using h3
    have HR := Lib.hid (show r = true by rw [HP.out, decide_eq_true h3]; rfl)
    clear h3 HP
    go_enter Try.func9, Try.ntmps9
    go_wp2_with fail
    go_ret
    exact ⟨by rw [HR.out]; rfl, FX.out⟩
  have b3 : decide (80 < (n : Int)) = false := by simp; omega
  have b4 : decide (80 < n) = false := by simpa using h3
  have HR := Lib.hid (show r = !(l.all smallT) by rw [HP.out, decide_eq_false h3]; rfl)
  clear h3 HP
  go_enter Try.func9, Try.ntmps9
  go_wp2_with fail
  go_loopw [3] (fun v3 wr => ∃ k : Nat, k ≤ n ∧ v3 = .int .i64 k ∧ wr = w.alloc (.cells #[.int .i64 b, .slice A n c] 24) ∧ Hid ((l.take k).all smallT = true)) (fun v3 _ => n - (intOf v3).toNat)
  case atStart => exact ⟨0, Nat.zero_le _, rfl, rfl, Lib.hid (by simp)⟩
  case round =>
    obtain ⟨k, hk, rfl, rfl, hno⟩ := hrel
    have x1 := (BX.out).cell 1 rfl
    by_cases hlt : k < n
    · have i1 : (k : Int) < (n : Int) := by omega
      have p1 : k < l.length := by have := HN.out; omega
      have hx := ((H.out).fr0 FX.out).cell (i := k) p1
      have HX := Lib.hid (fun (h : smallT l[k] = false) => (by rw [List.all_eq_false]; exact ⟨l[k], List.getElem_mem p1, by simp [h]⟩ : l.all smallT = false))
      have HY := Lib.hid (fun (h1 : (l.take k).all smallT = true) (h : smallT l[k] = true) => (by rw [List.take_succ_eq_append_getElem p1, List.all_append, h1]; simp [h] : (l.take (k + 1)).all smallT = true))
      obtain ⟨x, hx1⟩ : ∃ x, x = l[k] := ⟨_, rfl⟩
      rw [← hx1] at hx HX HY
      obtain ⟨g, off, B, e, rfl, hkc, -, c0, c1, c2, c3, hrd⟩ := hx
      have x63 := hrd.le63
      clear hrd p1 hx1
      by_cases hs : x.t.length ≤ 100
      · have s1 : decide (100 < (x.t.length : Int)) = false := by simp; omega
        have s2 : decide (100 < x.t.length) = false := by simp; omega
        have HT := Lib.hid (HY.out hno.out (by unfold smallT; exact decide_eq_true hs))
        clear hs HX HY
        go_wp2_with fail
        go_roundw
        case rel => first | exact ⟨k + 1, by omega, by go_num, rfl, HT⟩ | exact ⟨k + 1, by omega, by go_num, trivial, HT⟩
        case measure => simp [intOf]; omega
      · have s1 : decide (100 < (x.t.length : Int)) = true := by simp; omega
        have s2 : decide (100 < x.t.length) = true := by simp; omega
        have HR2 := Lib.hid (show r = true by rw [HR.out, HX.out (by unfold smallT; exact decide_eq_false hs)]; rfl)
        clear hs HX HY
        go_wp2_with fail
        go_ret
        exact ⟨by rw [HR2.out]; rfl, FX.out⟩
    · obtain rfl : k = n := by omega
      have HR2 := Lib.hid (show r = false by rw [HR.out]; have := hno.out; rw [HN.out, List.take_length] at this; rw [this]; rfl)
      go_wp2_with fail
      go_ret
      exact ⟨by rw [HR2.out]; rfl, FX.out⟩
end Go.Proofs.Ytcbllkkbpjobpaa
set_option linter.unusedVariables false
namespace Go.Proofs.Ytcbllkkbpjobpaa
open Go.RowKit

/-- Some bytes of the call's own, as many as the text has. -/
def AnyT (base : Nat) (w : World) (v : Value) (t : List UInt8) : Prop := ∃ d : List UInt8, d.length = t.length ∧ SlO base w v d
theorem SlO.poke {base : Nat} {w : World} {v : Value} {d : List UInt8} (h : SlO base w v d) {g : Nat} {cur : Array Value} (hg : Blk w g cur 5) (k : Nat) (y : UInt8) : ∃ d' : List UInt8, d'.length = d.length ∧ SlO base (w.setCell ⟨g, k, none⟩ (.int .u8 y.toNat)) v d' := by
  rcases h with ⟨rfl, rfl⟩ | ⟨g2, off, c, cur2, rfl, hb, hg2, h1, h2, h3, h4⟩
  · exact ⟨[], rfl, SlO.nil _ _⟩
  · by_cases he : g2 = g
    · subst he
      have hcur : cur2 = cur := by unfold Blk at hg hg2; rw [hg] at hg2; injection hg2 with e; injection e with e; exact e.symm
      subst hcur
      by_cases hk : off ≤ k ∧ k < off + d.length
      · refine ⟨d.set (k - off) y, List.length_set, .inr ⟨g2, off, c, _, by rw [List.length_set], hb, hg.set k _, by simpa using h1, by simpa using h2, h3, fun i u hu => ?_⟩⟩
        rw [byts, List.getElem?_map, List.getElem?_set] at hu
        by_cases hij : k - off = i
        · subst hij
          rw [if_pos rfl, if_pos (by omega)] at hu
          rw [Array.getElem?_setIfInBounds, if_pos (by omega), if_pos (by omega)]
          exact hu
        · rw [if_neg hij] at hu
          rw [Array.getElem?_setIfInBounds, if_neg (by omega)]
          exact h4 i u (by rw [byts, List.getElem?_map]; exact hu)
      · refine ⟨d, rfl, .inr ⟨g2, off, c, _, rfl, hb, hg.set k _, by simpa using h1, h2, h3, fun i u hu => ?_⟩⟩
        have hi : i < d.length := by
          rcases Nat.lt_or_ge i (byts d).length with h | h
          · rw [byts_len] at h; omega
          · rw [List.getElem?_eq_none h] at hu; cases hu
        rw [Array.getElem?_setIfInBounds, if_neg (by omega)]
        exact h4 i u hu
    · exact ⟨d, rfl, .inr ⟨g2, off, c, cur2, rfl, hb, hg2.other he _, h1, h2, h3, h4⟩⟩
theorem AnyT.poke {base : Nat} {w : World} {v : Value} {t : List UInt8} (h : AnyT base w v t) {g : Nat} {cur : Array Value} (hg : Blk w g cur 5) (k : Nat) (y : UInt8) : AnyT base (w.setCell ⟨g, k, none⟩ (.int .u8 y.toNat)) v t := by
  obtain ⟨d, h1, h2⟩ := h
  obtain ⟨d', h3, h4⟩ := h2.poke hg k y
  exact ⟨d', h3.trans h1, h4⟩
theorem DsG.poke {base b2 : Nat} {w : World} {v : Value} {l : List Dd} (D : DsG (AnyT base) b2 w v l) {g : Nat} {cur : Array Value} (hg : Blk w g cur 5) (k : Nat) (y : UInt8) : DsG (AnyT base) b2 (w.setCell ⟨g, k, none⟩ (.int .u8 y.toNat)) v l :=
  D.fr ((Fr1.refl g w).set k _) (D.ne hg (by decide)) (fun v t h => h.poke hg k y)
theorem DsG.any {base b2 : Nat} {w : World} {v : Value} {l : List Dd} (D : DsG (SlO base) b2 w v l) : DsG (AnyT base) b2 w v l := D.mono (Nat.le_refl _) (fun v t h => ⟨t, rfl, h⟩)
/-- A byte of a deed's text. -/
theorem DsG.text {base b2 : Nat} {w : World} {A : Option Addr} {n c : Nat} {l : List Dd} (D : DsG (AnyT base) b2 w (.slice A n c) l) {i : Nat} (hi : i < l.length) : ∃ g off B e d, A = some ⟨g, off, none⟩ ∧ i < c ∧ w.cell? ⟨g, off + i * 4 + 1, none⟩ = some (.slice B l[i].t.length e) ∧ d.length = l[i].t.length ∧ SlO base w (.slice B l[i].t.length e) d := by
  obtain ⟨tv, rfl, h2, h3⟩ := D
  rw [List.length_map] at hi
  obtain ⟨g, off, c', hv, hic, hg, hc⟩ := (Rd.of_own h2).cellAt hi
  injection hv with hA _ hcc
  subst hA hcc
  obtain ⟨d, hd, hs⟩ := h3 _ (List.getElem_mem hi)
  obtain ⟨B, e, hB, -⟩ := hs.form
  simp only [List.getElem_map]
  rw [← hd]
  refine ⟨g, off, B, e, d, rfl, hic, ?_, rfl, by rw [← hB]; exact hs⟩
  rw [← hB]
  exact hc 1 _ (flat_at ddC_len tv i hi (by omega))
theorem DsG.poked {base b2 : Nat} {w : World} {A : Option Addr} {n c : Nat} {l : List Dd} (D : DsG (AnyT base) b2 w (.slice A n c) l) {i : Nat} (hi : i < l.length) {j : Nat} (hj : j < l[i].t.length) : ∃ g off e gb ob z, A = some ⟨g, off, none⟩ ∧ i < c ∧ w.cell? ⟨g, off + i * 4 + 1, none⟩ = some (.slice (some ⟨gb, ob, none⟩) l[i].t.length e) ∧ j < e ∧
    w.cell? ⟨gb, ob + j, none⟩ = some (.int .u8 ((z : Nat) : Int)) ∧ z < 256 ∧ w.frozen? ⟨gb, ob + j, none⟩ = false ∧ base ≤ gb ∧ ∃ cur, Blk w gb cur 5 := by
  obtain ⟨g, off, B, e, d, hA, hic, hcell, hd, hs⟩ := D.text hi
  rw [← hd] at hcell hj hs ⊢
  rcases hs with ⟨h0, rfl⟩ | ⟨gb, ob, c', cur, hv, hb, hg, h1, h2, h3, h4⟩
  · simp at hj
  · injection hv with hB _ hc
    subst hB hc
    refine ⟨g, off, e, gb, ob, (d[j]).toNat, hA, hic, hcell, by omega, ?_, (d[j]).toNat_lt, hg.free _, hb, cur, hg⟩
    exact hg.cell _ (h4 j _ (byts_at d j hj))
theorem u8_more (z : Nat) (hz : z < 256) : IntKind.u8.wrap ((z : Int) + 1) = (((UInt8.ofNat (z + 1)).toNat : Nat) : Int) := by
  rw [UInt8.toNat_ofNat']
  show ((z : Int) + 1) % 256 = _
  omega
end Go.Proofs.Ytcbllkkbpjobpaa
namespace Go.Proofs.Ytcbllkkbpjobpaa
open Go.ChangeShapes Go.WideShapes Go.ChangeAt Go.RowKit Go.Deep

section
variable {H : Type} {enc : TypeId × Value → H} {w : World} {base : Nat} {spare : Nat → Bool} {held : Bool}
theorem read_dd {n : Nat} {cs : List Value} {x : DataW H × List MemPlace} (h : DataW.trod enc Try.prog w base spare held n 28 cs = some x) : ∃ y : Value × Dd, cs = ddC y ∧ RdB w y.1 y.2.t := by
  obtain ⟨hl, hr⟩ := read_fields (k := 4) Try.underlying28 (by kernel_rfl) (by kernel_rfl) h
  match cs, hl with
  | [a, b, c, d], _ =>
    obtain ⟨m, y, hy⟩ := hr 0 (by simp) _ rfl
    obtain ⟨z0, h0, -⟩ := read_int Try.underlying25 hy
    obtain ⟨m, y, hy⟩ := hr 1 (by simp) _ rfl
    obtain ⟨t, ht⟩ := arg_bytes Try.underlying26 Try.underlying5 (by kernel_rfl) hy
    obtain ⟨m, y, hy⟩ := hr 2 (by simp) _ rfl
    obtain ⟨z2, h2, -⟩ := read_int Try.underlying3 hy
    obtain ⟨m, y, hy⟩ := hr 3 (by simp) _ rfl
    obtain ⟨z3, h3, -⟩ := read_int Try.underlying3 hy
    simp only [List.getElem_cons_zero, List.getElem_cons_succ] at h0 h2 h3 ht
    exact ⟨(b, ⟨z0, t, z2, z3⟩), by rw [h0, h2, h3]; rfl, ht⟩
theorem arg_ds {fuel : Nat} {v : Value} {x : DataW H × List MemPlace} (h : DataW.trod enc Try.prog w base spare held fuel 22 [v] = some x) : ∃ l : List Dd, Ds w v l := by
  obtain ⟨tv, h1, h2⟩ := arg_of (k := 4) ddC (fun y => RdB w y.1 y.2.t) (by decide) ddC_len Try.underlying22 (by kernel_rfl) (fun n cs x h => read_dd h) h
  exact ⟨tv.map (·.2), tv, rfl, h1, h2⟩
theorem arg_deed {b0 : Nat} {r : Reach} {v : Value} {d : DataW H} {ps : List MemPlace} (hv : Value.okWide Try.prog w r b0 28 v) (h : DataW.Trod enc Try.prog w base spare held 28 v d ps) : ∃ (dv : Value) (x : Dd), v = .agg #[.int .i64 x.kind, dv, .int .i64 x.rows, .int .i64 x.cols] ∧ RdB w dv x.t := by
  obtain ⟨cs, rfl, _⟩ := okWide_struct Try.underlying28 hv
  obtain ⟨fuel, hf⟩ := h
  obtain ⟨y, hy, hd⟩ := read_dd hf
  refine ⟨y.1, y.2, ?_, hd⟩
  have : cs.toList = _ := hy
  rw [show cs = cs.toList.toArray from by simp, this]; rfl
theorem arg_stream {b0 : Nat} {r : Reach} {v : Value} {d : DataW H} {ps : List MemPlace} (hv : Value.okWide Try.prog w r b0 24 v) (h : DataW.Trod enc Try.prog w base spare held 24 v d ps) : ∃ (b : Int) (sv : Value) (l : List Dd), v = .agg #[.int .i64 b, sv] ∧ Ds w sv l ∧ -9223372036854775808 ≤ b ∧ b ≤ 9223372036854775807 := by
  obtain ⟨cs, rfl, _⟩ := okWide_struct Try.underlying24 hv
  obtain ⟨fuel, hf0⟩ := h
  have hf : DataW.trod enc Try.prog w base spare held fuel 24 cs.toList = some (d, ps) := hf0
  obtain ⟨hl, hr⟩ := read_fields (k := 2) Try.underlying24 (by kernel_rfl) (by kernel_rfl) hf
  have hcs : cs = cs.toList.toArray := by simp
  obtain ⟨l, e⟩ : ∃ l, l = cs.toList := ⟨_, rfl⟩
  have hf' := hf
  rw [← e] at hcs
  have hl' : l.length = 2 := by rw [e]; exact hl
  match l, hl' with
  | [a, b], _ =>
    have hg : ∀ j (hj : j < 2), cs.toList[j]'(by rw [← e]; simpa using hj) = [a, b][j]'(by simpa using hj) := fun j hj => by simp [← e]
    obtain ⟨m, y, hy⟩ := hr 0 (by rw [← e]; simp) _ rfl
    rw [hg 0 (by omega)] at hy
    obtain ⟨z0, h0, hb1, hb2⟩ := read_int Try.underlying3 hy
    obtain ⟨m, y, hy⟩ := hr 1 (by rw [← e]; simp) _ rfl
    rw [hg 1 (by omega)] at hy
    obtain ⟨q, hq⟩ := arg_ds hy
    simp only [List.getElem_cons_zero, List.getElem_cons_succ] at h0 hq
    exact ⟨z0, b, q, by rw [hcs, h0], hq, hb1, hb2⟩
end
end Go.Proofs.Ytcbllkkbpjobpaa
namespace Go.Proofs.Ytcbllkkbpjobpaa
open Go.RowKit
variable {P : Program} {ops : Array Oper} {a : Act} {o : Oper}
theorem yieldsW_load_blk {S : World → Prop} (hw : Region.wanted o (yielded ops a.tmps) = true) (ty : TypeId) (x : Operand) (ho : o.op = .load ty x) (g : Nat) (hx : a.eval x = .pointer (some ⟨g, 0, none⟩)) (t : TypeId) (cs : Array Value) (hS : ∀ w, S w → Blk w g cs t) (d : TypeDesc)
    (hu : P.underlying ty = some d) (hd : d.isRow = true) (hi : (P.info? ty).map (·.size) = some cs.size) : YieldsIf P ops S o (.agg cs) a := by
  have h := yieldsIf_load_mid (P := P) (ops := ops) (S := S) (a := a) (op := o) hw ty x ho g 0 hx cs.toList d (fun w hw j v hv => (hS w hw).cell _ (by simpa using hv)) hu hd (by simpa using hi)
  simpa using h
theorem wp_val {w : World} {K : Act → World → Prop} {Q : Exit → Act → World → Prop} (v : Value) (hrun : (execOp a.eval o).run P w = .ok (.value v) w) (h : K (a.put o.dst v) w) : Oper.wp P o a w K Q := by
  unfold Oper.wp
  rw [hrun]
  exact h
end Go.Proofs.Ytcbllkkbpjobpaa
set_option linter.unusedVariables false
set_option linter.unusedSimpArgs false
namespace Go.Proofs.Ytcbllkkbpjobpaa
open Go.RowKit
theorem RdB.apart {w : World} {v : Value} {d : List UInt8} {g n c : Nat} {a : Int} {B : Option Addr} {t : TypeId} (h : RdB w v d) (hb : Blk w g #[.int .i64 a, .slice B n c] t) : 0 < d.length → Value.blk v ≠ some g := by
  intro h0 he
  obtain ⟨g', off, c', rfl, -, -, hc⟩ := h.cell h0
  cases he
  unfold Blk at hb
  simp only [World.cell?, hb, Nat.add_zero] at hc
  rcases off with _ | _ | k
  · simp at hc
  · simp at hc
  · simp at hc
theorem want_set {W w15 : World} {B : Option Addr} {g nL c : Nat} {LN : List Dd} (hd : DsG (fun _ v t => RdB W v t) W.heap.size w15 (.slice B nL c) LN) (hf : Fr0 W w15) (hb : Blk W g #[.int .i64 0, .slice none 0 0] 24) (v : Value) : Ds (w15.setCell ⟨g, 1, none⟩ v) (.slice B nL c) LN :=
  (hd.fr (T := fun _ v t => RdB W v t) ((Fr1.refl g w15).set 1 v) (fun k hk e => by have h1 := (hd.lo k hk).1; have h2 := hb.lt; omega) (fun v t h => h)).ds (fun v' t h => (h.fr0 hf).fr1 ((Fr1.refl g w15).set 1 v) ((h.apart hb)))

set_option maxHeartbeats 8000000 in
set_option maxRecDepth 100000 in
theorem inputEdits_tail {b m pA eA eC : Int} {l LN lA : List Dd} {x : Dd} {n nL nA g7 g8 g10 : Nat} {A Bd B5 B8 B12 : Option Addr} {c ed c5 c8 c12 : Nat} {s : Bool} {w W5 wm : World} (u6 u19 u20 u21 u22 u23 u24 u25 u26 u27 u28 u29 u30 u31 u32 u33 u34 u35 u36 u37 u38 u39 u40 u41 u42 u43 u44 u45 u46 u47 u48 u49 u50 u51 u52 u53 u54 u55 u56 u57 u58 u59 u60 u61 u62 u63 u64 u65 u66 u67 u68 u69 u70 u71 u72 u73 u74 u75 u76 u77 u78 u79 u80 u81 u82 u83 u84 u85 u86 u87 u88 u89 u90 u91 u92 u93 u94 u95 u96 u97 u98 u99 u100 u101 u102 u103 u104 u105 u106 u107 u108 u109 u110 u111 u112 u113 u114 u115 u116 u117 u118 u119 u120 u121 u122 u123 u124 u125 u126 u127 u128 u129 u130 u131 u132 u133 u134 u135 u136 u137 u138 u139 u140 u141 u142 u143 u144 u145 u146 u147 u148 u149 u150 u151 u152 u153 u154 u155 u156 u157 u158 u159 u160 u161 u162 u163 u164 u165 u166 u167 u168 u169 u170 u171 u172 u173 u174 u175 u176 u177 u178 u179 u180 u181 u182 u183 u184 u185 u186 u187 u188 u189 u190 u191 u192 u193 u194 u195 u196 u197 u198 u199 u200 u201 u202 u203 u204 u205 u206 u207 u208 u209 : Value)
    (X11 : Hid (Blk wm w.heap.size #[Value.int IntKind.i64 b, Value.slice A n c] 24)) (D8K : Hid (DsG (SlO W5.heap.size) W5.heap.size wm (Value.slice B12 nL c12) LN)) (D6K : Hid (DsG (SlO W5.heap.size) W5.heap.size wm (Value.slice B8 nA c8) lA))
    (Y6K : Hid (Blk wm g8 #[Value.int IntKind.i64 pA, Value.slice B8 nA c8] 24)) (GK : Hid (Fr0 W5 wm)) (FWK : Hid (Fr0 w wm))
    (X5 : Hid (Blk W5 w.heap.size #[Value.int IntKind.i64 b, Value.slice A n c] 24)) (D5 : Hid (Ds W5 (Value.slice B5 n c5) l)) (F5 : Hid (Fr0 w W5)) (Y5 : Hid (Blk W5 g7 #[Value.int IntKind.i64 b, Value.slice B5 n c5] 24))
    (HSL : Hid (∀ (W : World) (B : Option Addr) (c' : Nat), Fr0 w W → Ds W (Value.slice B n c') l → Calls Try.prog 16 #[Value.agg #[Value.int IntKind.i64 b, Value.slice B n c'], Value.agg #[Value.int IntKind.i64 b, Value.slice A n c]] W fun e w' => e = Ending.returned (Value.bool true) ∧ Fr0 W w'))
    (HRS1 : Hid (∀ (W : World), s = true → Fr0 w W → Calls Try.prog 17 #[Value.agg #[Value.int IntKind.i64 b, Value.slice A n c], Value.int IntKind.i64 m] W fun e w' => ∃ B c', e = Ending.returned (Value.slice B nL c') ∧ DsG (fun x v t => RdB W v t) W.heap.size w' (Value.slice B nL c') LN ∧ Fr0 W w'))
    (HLN : Hid (s = false → LN = [])) (HNLL : Hid (nL = LN.length)) (HNA : Hid (nA = lA.length)) (i5 : -9223372036854775808 ≤ m) (i6 : m ≤ 9223372036854775807) :
    Code.wp Try.prog         ((Code.region 23
              #[{ dst := some 141, op := Op.build 24 #[], type := 24, pos := "law.go:81", after := #[], guard := none },
                { dst := some 14, op := Op.alloc 24, type := 0, pos := "law.go:81", after := #[], guard := none },
                { dst := none, op := Op.store 24 (Operand.tmp 14) (Operand.tmp 141), type := 0, pos := "law.go:81",
                  after :=
                    #[{ on := 1, ground := Ground.data }, { on := 0, ground := Ground.data },
                      { on := 0, ground := Ground.phase }, { on := 1, ground := Ground.phase }],
                  guard := none }]
              false).seq
          (((Code.region 24
                    #[{ dst := some 142, op := Op.move (Operand.tmp 13), type := 4, pos := "law.go:82", after := #[],
                        guard := none }]
                    false).seq
                (Code.cond (Operand.tmp 142)
                  (Code.region 25
                    #[{ dst := some 143, op := Op.load 24 (Operand.tmp 3), type := 24, pos := "law.go:83", after := #[],
                        guard := none },
                      { dst := some 144, op := Op.move (Operand.tmp 2), type := 3, pos := "law.go:83", after := #[],
                        guard := none },
                      { dst := some 145,
                        op :=
                          Op.call
                            { callee := Callee.value (Operand.func 17), args := #[Operand.tmp 143, Operand.tmp 144],
                              argTypes := #[24, 3] },
                        type := 22, pos := "law.go:83",
                        after := #[{ on := 0, ground := Ground.data }, { on := 1, ground := Ground.data }],
                        guard := none },
                      { dst := some 146, op := Op.fieldAddr 24 (Operand.tmp 14) 1, type := 0, pos := "law.go:83",
                        after :=
                          #[{ on := 0, ground := Ground.phase }, { on := 1, ground := Ground.phase },
                            { on := 2, ground := Ground.phase }],
                        guard := none },
                      { dst := none, op := Op.store 22 (Operand.tmp 146) (Operand.tmp 145), type := 0,
                        pos := "law.go:83",
                        after :=
                          #[{ on := 3, ground := Ground.data }, { on := 2, ground := Ground.data },
                            { on := 2, ground := Ground.chain }, { on := 0, ground := Ground.phase },
                            { on := 1, ground := Ground.phase }, { on := 2, ground := Ground.phase }],
                        guard := none }]
                    false)
                  Code.skip)).seq
            (((Code.region 26
                      #[{ dst := some 147, op := Op.move (Operand.tmp 12), type := 22, pos := "law.go:85", after := #[],
                          guard := none },
                        { dst := some 148, op := Op.build 24 #[(1, Operand.tmp 147)], type := 24, pos := "law.go:85",
                          after := #[{ on := 0, ground := Ground.data }], guard := none },
                        { dst := some 149, op := Op.load 24 (Operand.tmp 14), type := 24, pos := "law.go:85",
                          after := #[], guard := none },
                        { dst := some 150,
                          op :=
                            Op.call
                              { callee := Callee.value (Operand.func 16), args := #[Operand.tmp 148, Operand.tmp 149],
                                argTypes := #[24, 24] },
                          type := 4, pos := "law.go:85",
                          after := #[{ on := 1, ground := Ground.data }, { on := 2, ground := Ground.data }],
                          guard := none },
                        { dst := some 151, op := Op.unOp UnOp.not 4 (Operand.tmp 150), type := 4, pos := "law.go:85",
                          after := #[{ on := 3, ground := Ground.data }], guard := none }]
                      false).seq
                  (Code.cond (Operand.tmp 151)
                    ((Code.region 27
                          #[{ dst := some 6, op := Op.assign (Operand.const (Value.bool false)), type := 4,
                              pos := "law.go:86", after := #[], guard := none }]
                          false).seq
                      Code.ret)
                    Code.skip)).seq
              (((Code.region 28
                        #[{ dst := some 15, op := Op.assign (Operand.const (Value.int IntKind.i64 0)), type := 3,
                            pos := "law.go:88", after := #[], guard := none }]
                        false).seq
                    (Code.block 1
                      (((Code.region 29
                                  #[{ dst := some 152, op := Op.move (Operand.tmp 15), type := 3, pos := "law.go:88",
                                      after := #[], guard := none },
                                    { dst := some 153, op := Op.move (Operand.tmp 12), type := 22, pos := "law.go:88",
                                      after := #[], guard := none },
                                    { dst := some 154,
                                      op :=
                                        Op.call
                                          { callee := Callee.builtin Builtin.len, args := #[Operand.tmp 153],
                                            argTypes := #[22] },
                                      type := 3, pos := "law.go:88", after := #[{ on := 1, ground := Ground.data }],
                                      guard := none },
                                    { dst := some 155, op := Op.binOp BinOp.lss 3 (Operand.tmp 152) (Operand.tmp 154) 3,
                                      type := 4, pos := "law.go:88",
                                      after :=
                                        #[{ on := 0, ground := Ground.data }, { on := 2, ground := Ground.data }],
                                      guard := none }]
                                  false).seq
                              (Code.cond (Operand.tmp 155) Code.skip (Code.exit 1))).seq
                          ((Code.block 2
                                ((Code.region 31
                                      #[{ dst := some 16, op := Op.assign (Operand.const (Value.int IntKind.i64 0)),
                                          type := 3, pos := "law.go:89", after := #[], guard := none }]
                                      false).seq
                                  (Code.block 3
                                    (((Code.region 32
                                                #[{ dst := some 158, op := Op.move (Operand.tmp 16), type := 3,
                                                    pos := "law.go:89", after := #[], guard := none },
                                                  { dst := some 159, op := Op.move (Operand.tmp 12), type := 22,
                                                    pos := "law.go:89", after := #[], guard := none },
                                                  { dst := some 160, op := Op.move (Operand.tmp 15), type := 3,
                                                    pos := "law.go:89", after := #[], guard := none },
                                                  { dst := some 161,
                                                    op := Op.indexAddr 22 (Operand.tmp 159) (Operand.tmp 160),
                                                    type := 0, pos := "law.go:89",
                                                    after :=
                                                      #[{ on := 1, ground := Ground.data },
                                                        { on := 2, ground := Ground.data }],
                                                    guard := none },
                                                  { dst := some 162, op := Op.fieldAddr 28 (Operand.tmp 161) 1,
                                                    type := 0, pos := "law.go:89",
                                                    after := #[{ on := 3, ground := Ground.data }], guard := none },
                                                  { dst := some 163, op := Op.load 26 (Operand.tmp 162), type := 26,
                                                    pos := "law.go:89", after := #[{ on := 4, ground := Ground.data }],
                                                    guard := none },
                                                  { dst := some 164,
                                                    op :=
                                                      Op.call
                                                        { callee := Callee.builtin Builtin.len,
                                                          args := #[Operand.tmp 163], argTypes := #[26] },
                                                    type := 3, pos := "law.go:89",
                                                    after := #[{ on := 5, ground := Ground.data }], guard := none },
                                                  { dst := some 165,
                                                    op := Op.binOp BinOp.lss 3 (Operand.tmp 158) (Operand.tmp 164) 3,
                                                    type := 4, pos := "law.go:89",
                                                    after :=
                                                      #[{ on := 0, ground := Ground.data },
                                                        { on := 6, ground := Ground.data }],
                                                    guard := none }]
                                                false).seq
                                            (Code.cond (Operand.tmp 165) Code.skip (Code.exit 3))).seq
                                        ((Code.block 4
                                              (Code.region 34
                                                #[{ dst := some 168, op := Op.move (Operand.tmp 12), type := 22,
                                                    pos := "law.go:90", after := #[], guard := none },
                                                  { dst := some 169, op := Op.move (Operand.tmp 15), type := 3,
                                                    pos := "law.go:90", after := #[], guard := none },
                                                  { dst := some 170,
                                                    op := Op.indexAddr 22 (Operand.tmp 168) (Operand.tmp 169),
                                                    type := 0, pos := "law.go:90",
                                                    after :=
                                                      #[{ on := 0, ground := Ground.data },
                                                        { on := 1, ground := Ground.data }],
                                                    guard := none },
                                                  { dst := some 171, op := Op.fieldAddr 28 (Operand.tmp 170) 1,
                                                    type := 0, pos := "law.go:90",
                                                    after := #[{ on := 2, ground := Ground.data }], guard := none },
                                                  { dst := some 172, op := Op.load 26 (Operand.tmp 171), type := 26,
                                                    pos := "law.go:90", after := #[{ on := 3, ground := Ground.data }],
                                                    guard := none },
                                                  { dst := some 173, op := Op.move (Operand.tmp 16), type := 3,
                                                    pos := "law.go:90", after := #[], guard := none },
                                                  { dst := some 174,
                                                    op := Op.indexAddr 26 (Operand.tmp 172) (Operand.tmp 173),
                                                    type := 0, pos := "law.go:90",
                                                    after :=
                                                      #[{ on := 4, ground := Ground.data },
                                                        { on := 5, ground := Ground.data }],
                                                    guard := none },
                                                  { dst := some 175, op := Op.load 5 (Operand.tmp 174), type := 5,
                                                    pos := "law.go:90", after := #[{ on := 6, ground := Ground.data }],
                                                    guard := none },
                                                  { dst := some 176,
                                                    op :=
                                                      Op.binOp BinOp.add 5 (Operand.tmp 175)
                                                        (Operand.const (Value.int IntKind.u8 1)) 5,
                                                    type := 5, pos := "law.go:90",
                                                    after := #[{ on := 7, ground := Ground.data }], guard := none },
                                                  { dst := some 177,
                                                    op := Op.indexAddr 26 (Operand.tmp 172) (Operand.tmp 173),
                                                    type := 0, pos := "law.go:90",
                                                    after :=
                                                      #[{ on := 4, ground := Ground.data },
                                                        { on := 5, ground := Ground.data },
                                                        { on := 0, ground := Ground.phase },
                                                        { on := 1, ground := Ground.phase },
                                                        { on := 2, ground := Ground.phase },
                                                        { on := 3, ground := Ground.phase },
                                                        { on := 4, ground := Ground.phase },
                                                        { on := 5, ground := Ground.phase },
                                                        { on := 6, ground := Ground.phase },
                                                        { on := 7, ground := Ground.phase },
                                                        { on := 8, ground := Ground.phase }],
                                                    guard := none },
                                                  { dst := none, op := Op.store 5 (Operand.tmp 177) (Operand.tmp 176),
                                                    type := 0, pos := "law.go:90",
                                                    after :=
                                                      #[{ on := 9, ground := Ground.data },
                                                        { on := 8, ground := Ground.data },
                                                        { on := 0, ground := Ground.phase },
                                                        { on := 1, ground := Ground.phase },
                                                        { on := 2, ground := Ground.phase },
                                                        { on := 3, ground := Ground.phase },
                                                        { on := 4, ground := Ground.phase },
                                                        { on := 5, ground := Ground.phase },
                                                        { on := 6, ground := Ground.phase },
                                                        { on := 7, ground := Ground.phase },
                                                        { on := 8, ground := Ground.phase }],
                                                    guard := none }]
                                                false)).seq
                                          (Code.region 33
                                            #[{ dst := some 166, op := Op.move (Operand.tmp 16), type := 3,
                                                pos := "law.go:89", after := #[], guard := none },
                                              { dst := some 167,
                                                op :=
                                                  Op.binOp BinOp.add 3 (Operand.tmp 166)
                                                    (Operand.const (Value.int IntKind.i64 1)) 3,
                                                type := 3, pos := "law.go:89",
                                                after := #[{ on := 0, ground := Ground.data }], guard := none },
                                              { dst := some 16, op := Op.assign (Operand.tmp 167), type := 3,
                                                pos := "law.go:89",
                                                after :=
                                                  #[{ on := 1, ground := Ground.data },
                                                    { on := 0, ground := Ground.phase },
                                                    { on := 1, ground := Ground.phase }],
                                                guard := none }]
                                            false))).loop))).seq
                            (Code.region 30
                              #[{ dst := some 156, op := Op.move (Operand.tmp 15), type := 3, pos := "law.go:88",
                                  after := #[], guard := none },
                                { dst := some 157,
                                  op :=
                                    Op.binOp BinOp.add 3 (Operand.tmp 156) (Operand.const (Value.int IntKind.i64 1)) 3,
                                  type := 3, pos := "law.go:88", after := #[{ on := 0, ground := Ground.data }],
                                  guard := none },
                                { dst := some 15, op := Op.assign (Operand.tmp 157), type := 3, pos := "law.go:88",
                                  after :=
                                    #[{ on := 1, ground := Ground.data }, { on := 0, ground := Ground.phase },
                                      { on := 1, ground := Ground.phase }],
                                  guard := none }]
                              false))).loop)).seq
                (((Code.region 35
                          #[{ dst := some 17, op := Op.assign (Operand.const (Value.int IntKind.i64 0)), type := 3,
                              pos := "law.go:93", after := #[], guard := none }]
                          false).seq
                      (Code.block 5
                        (((Code.region 36
                                    #[{ dst := some 178, op := Op.move (Operand.tmp 17), type := 3, pos := "law.go:93",
                                        after := #[], guard := none },
                                      { dst := some 179, op := Op.fieldAddr 24 (Operand.tmp 8) 1, type := 0,
                                        pos := "law.go:93", after := #[], guard := none },
                                      { dst := some 180, op := Op.load 22 (Operand.tmp 179), type := 22,
                                        pos := "law.go:93", after := #[{ on := 1, ground := Ground.data }],
                                        guard := none },
                                      { dst := some 181,
                                        op :=
                                          Op.call
                                            { callee := Callee.builtin Builtin.len, args := #[Operand.tmp 180],
                                              argTypes := #[22] },
                                        type := 3, pos := "law.go:93", after := #[{ on := 2, ground := Ground.data }],
                                        guard := none },
                                      { dst := some 182,
                                        op := Op.binOp BinOp.lss 3 (Operand.tmp 178) (Operand.tmp 181) 3, type := 4,
                                        pos := "law.go:93",
                                        after :=
                                          #[{ on := 0, ground := Ground.data }, { on := 3, ground := Ground.data }],
                                        guard := none }]
                                    false).seq
                                (Code.cond (Operand.tmp 182) Code.skip (Code.exit 5))).seq
                            ((Code.block 6
                                  ((Code.region 38
                                        #[{ dst := some 18, op := Op.assign (Operand.const (Value.int IntKind.i64 0)),
                                            type := 3, pos := "law.go:94", after := #[], guard := none }]
                                        false).seq
                                    (Code.block 7
                                      (((Code.region 39
                                                  #[{ dst := some 185, op := Op.move (Operand.tmp 18), type := 3,
                                                      pos := "law.go:94", after := #[], guard := none },
                                                    { dst := some 186, op := Op.fieldAddr 24 (Operand.tmp 8) 1,
                                                      type := 0, pos := "law.go:94", after := #[], guard := none },
                                                    { dst := some 187, op := Op.load 22 (Operand.tmp 186), type := 22,
                                                      pos := "law.go:94",
                                                      after := #[{ on := 1, ground := Ground.data }], guard := none },
                                                    { dst := some 188, op := Op.move (Operand.tmp 17), type := 3,
                                                      pos := "law.go:94", after := #[], guard := none },
                                                    { dst := some 189,
                                                      op := Op.indexAddr 22 (Operand.tmp 187) (Operand.tmp 188),
                                                      type := 0, pos := "law.go:94",
                                                      after :=
                                                        #[{ on := 2, ground := Ground.data },
                                                          { on := 3, ground := Ground.data }],
                                                      guard := none },
                                                    { dst := some 190, op := Op.fieldAddr 28 (Operand.tmp 189) 1,
                                                      type := 0, pos := "law.go:94",
                                                      after := #[{ on := 4, ground := Ground.data }], guard := none },
                                                    { dst := some 191, op := Op.load 26 (Operand.tmp 190), type := 26,
                                                      pos := "law.go:94",
                                                      after := #[{ on := 5, ground := Ground.data }], guard := none },
                                                    { dst := some 192,
                                                      op :=
                                                        Op.call
                                                          { callee := Callee.builtin Builtin.len,
                                                            args := #[Operand.tmp 191], argTypes := #[26] },
                                                      type := 3, pos := "law.go:94",
                                                      after := #[{ on := 6, ground := Ground.data }], guard := none },
                                                    { dst := some 193,
                                                      op := Op.binOp BinOp.lss 3 (Operand.tmp 185) (Operand.tmp 192) 3,
                                                      type := 4, pos := "law.go:94",
                                                      after :=
                                                        #[{ on := 0, ground := Ground.data },
                                                          { on := 7, ground := Ground.data }],
                                                      guard := none }]
                                                  false).seq
                                              (Code.cond (Operand.tmp 193) Code.skip (Code.exit 7))).seq
                                          ((Code.block 8
                                                (Code.region 41
                                                  #[{ dst := some 196, op := Op.fieldAddr 24 (Operand.tmp 8) 1,
                                                      type := 0, pos := "law.go:95", after := #[], guard := none },
                                                    { dst := some 197, op := Op.load 22 (Operand.tmp 196), type := 22,
                                                      pos := "law.go:95",
                                                      after := #[{ on := 0, ground := Ground.data }], guard := none },
                                                    { dst := some 198, op := Op.move (Operand.tmp 17), type := 3,
                                                      pos := "law.go:95", after := #[], guard := none },
                                                    { dst := some 199,
                                                      op := Op.indexAddr 22 (Operand.tmp 197) (Operand.tmp 198),
                                                      type := 0, pos := "law.go:95",
                                                      after :=
                                                        #[{ on := 1, ground := Ground.data },
                                                          { on := 2, ground := Ground.data }],
                                                      guard := none },
                                                    { dst := some 200, op := Op.fieldAddr 28 (Operand.tmp 199) 1,
                                                      type := 0, pos := "law.go:95",
                                                      after := #[{ on := 3, ground := Ground.data }], guard := none },
                                                    { dst := some 201, op := Op.load 26 (Operand.tmp 200), type := 26,
                                                      pos := "law.go:95",
                                                      after := #[{ on := 4, ground := Ground.data }], guard := none },
                                                    { dst := some 202, op := Op.move (Operand.tmp 18), type := 3,
                                                      pos := "law.go:95", after := #[], guard := none },
                                                    { dst := some 203,
                                                      op := Op.indexAddr 26 (Operand.tmp 201) (Operand.tmp 202),
                                                      type := 0, pos := "law.go:95",
                                                      after :=
                                                        #[{ on := 5, ground := Ground.data },
                                                          { on := 6, ground := Ground.data }],
                                                      guard := none },
                                                    { dst := some 204, op := Op.load 5 (Operand.tmp 203), type := 5,
                                                      pos := "law.go:95",
                                                      after := #[{ on := 7, ground := Ground.data }], guard := none },
                                                    { dst := some 205,
                                                      op :=
                                                        Op.binOp BinOp.add 5 (Operand.tmp 204)
                                                          (Operand.const (Value.int IntKind.u8 1)) 5,
                                                      type := 5, pos := "law.go:95",
                                                      after := #[{ on := 8, ground := Ground.data }], guard := none },
                                                    { dst := some 206,
                                                      op := Op.indexAddr 26 (Operand.tmp 201) (Operand.tmp 202),
                                                      type := 0, pos := "law.go:95",
                                                      after :=
                                                        #[{ on := 5, ground := Ground.data },
                                                          { on := 6, ground := Ground.data },
                                                          { on := 0, ground := Ground.phase },
                                                          { on := 1, ground := Ground.phase },
                                                          { on := 2, ground := Ground.phase },
                                                          { on := 3, ground := Ground.phase },
                                                          { on := 4, ground := Ground.phase },
                                                          { on := 5, ground := Ground.phase },
                                                          { on := 6, ground := Ground.phase },
                                                          { on := 7, ground := Ground.phase },
                                                          { on := 8, ground := Ground.phase },
                                                          { on := 9, ground := Ground.phase }],
                                                      guard := none },
                                                    { dst := none, op := Op.store 5 (Operand.tmp 206) (Operand.tmp 205),
                                                      type := 0, pos := "law.go:95",
                                                      after :=
                                                        #[{ on := 10, ground := Ground.data },
                                                          { on := 9, ground := Ground.data },
                                                          { on := 0, ground := Ground.phase },
                                                          { on := 1, ground := Ground.phase },
                                                          { on := 2, ground := Ground.phase },
                                                          { on := 3, ground := Ground.phase },
                                                          { on := 4, ground := Ground.phase },
                                                          { on := 5, ground := Ground.phase },
                                                          { on := 6, ground := Ground.phase },
                                                          { on := 7, ground := Ground.phase },
                                                          { on := 8, ground := Ground.phase },
                                                          { on := 9, ground := Ground.phase }],
                                                      guard := none }]
                                                  false)).seq
                                            (Code.region 40
                                              #[{ dst := some 194, op := Op.move (Operand.tmp 18), type := 3,
                                                  pos := "law.go:94", after := #[], guard := none },
                                                { dst := some 195,
                                                  op :=
                                                    Op.binOp BinOp.add 3 (Operand.tmp 194)
                                                      (Operand.const (Value.int IntKind.i64 1)) 3,
                                                  type := 3, pos := "law.go:94",
                                                  after := #[{ on := 0, ground := Ground.data }], guard := none },
                                                { dst := some 18, op := Op.assign (Operand.tmp 195), type := 3,
                                                  pos := "law.go:94",
                                                  after :=
                                                    #[{ on := 1, ground := Ground.data },
                                                      { on := 0, ground := Ground.phase },
                                                      { on := 1, ground := Ground.phase }],
                                                  guard := none }]
                                              false))).loop))).seq
                              (Code.region 37
                                #[{ dst := some 183, op := Op.move (Operand.tmp 17), type := 3, pos := "law.go:93",
                                    after := #[], guard := none },
                                  { dst := some 184,
                                    op :=
                                      Op.binOp BinOp.add 3 (Operand.tmp 183) (Operand.const (Value.int IntKind.i64 1))
                                        3,
                                    type := 3, pos := "law.go:93", after := #[{ on := 0, ground := Ground.data }],
                                    guard := none },
                                  { dst := some 17, op := Op.assign (Operand.tmp 184), type := 3, pos := "law.go:93",
                                    after :=
                                      #[{ on := 1, ground := Ground.data }, { on := 0, ground := Ground.phase },
                                        { on := 1, ground := Ground.phase }],
                                    guard := none }]
                                false))).loop)).seq
                  ((Code.region 42
                        #[{ dst := some 207, op := Op.load 24 (Operand.tmp 7), type := 24, pos := "law.go:98",
                            after := #[], guard := none },
                          { dst := some 208, op := Op.load 24 (Operand.tmp 3), type := 24, pos := "law.go:98",
                            after := #[], guard := none },
                          { dst := some 209,
                            op :=
                              Op.call
                                { callee := Callee.value (Operand.func 16), args := #[Operand.tmp 207, Operand.tmp 208],
                                  argTypes := #[24, 24] },
                            type := 4, pos := "law.go:98",
                            after := #[{ on := 0, ground := Ground.data }, { on := 1, ground := Ground.data }],
                            guard := none },
                          { dst := some 6, op := Op.assign (Operand.tmp 209), type := 4, pos := "law.go:98",
                            after :=
                              #[{ on := 2, ground := Ground.data }, { on := 2, ground := Ground.chain },
                                { on := 0, ground := Ground.phase }, { on := 1, ground := Ground.phase },
                                { on := 2, ground := Ground.phase }],
                            guard := none }]
                        false).seq
                    Code.ret))))))
      (bodyPost Try.prog Try.f3 fun e w' => e = Ending.returned (Value.bool true) ∧ Fr0 w w')
          {
      tmps :=
        #[Value.agg #[Value.int IntKind.i64 b, Value.slice A n c],
          Value.agg
            #[Value.int IntKind.i64 x.kind, Value.slice Bd x.t.length ed, Value.int IntKind.i64 x.rows,
              Value.int IntKind.i64 x.cols],
          Value.int IntKind.i64 m, Value.pointer (some { block := w.heap.size, off := 0 }),
          Value.pointer (some { block := w.heap.size + 1, off := 0 }), undef, u6,
          Value.pointer (some { block := g7, off := 0 }), Value.pointer (some { block := g8, off := 0 }),
          Value.int IntKind.i64 eA, Value.pointer (some { block := g10, off := 0 }), Value.int IntKind.i64 eC,
          Value.slice B12 nL c12, Value.bool s, undef, undef, undef, undef, undef, u19, u20, u21, u22, u23, u24, u25,
          u26, u27, u28, u29, u30, u31, u32, u33, u34, u35, u36, u37, u38, u39, u40, u41, u42, u43, u44, u45, u46, u47,
          u48, u49, u50, u51, u52, u53, u54, u55, u56, u57, u58, u59, u60, u61, u62, u63, u64, u65, u66, u67, u68, u69,
          u70, u71, u72, u73, u74, u75, u76, u77, u78, u79, u80, u81, u82, u83, u84, u85, u86, u87, u88, u89, u90, u91,
          u92, u93, u94, u95, u96, u97, u98, u99, u100, u101, u102, u103, u104, u105, u106, u107, u108, u109, u110,
          u111, u112, u113, u114, u115, u116, u117, u118, u119, u120, u121, u122, u123, u124, u125, u126, u127, u128,
          u129, u130, u131, u132, u133, u134, u135, u136, u137, u138, u139, u140, u141, u142, u143, u144, u145, u146,
          u147, u148, u149, u150, u151, u152, u153, u154, u155, u156, u157, u158, u159, u160, u161, u162, u163, u164,
          u165, u166, u167, u168, u169, u170, u171, u172, u173, u174, u175, u176, u177, u178, u179, u180, u181, u182,
          u183, u184, u185, u186, u187, u188, u189, u190, u191, u192, u193, u194, u195, u196, u197, u198, u199, u200,
          u201, u202, u203, u204, u205, u206, u207, u208, u209],
      defers := [] }
     wm := by
  have x0 := (X11.out).cell 0 rfl
  have x1 := (X11.out).cell 1 rfl
  go_upto_if 142 with (fail)
  have FA := (Fr0.refl wm).alloc (.cells #[.int .i64 0, .slice none 0 0] 24)
  have Y14 := Lib.hid (Blk.new wm #[.int .i64 0, .slice none 0 0] 24)
  have X14 := Lib.hid ((X11.out).fr0 FA)
  have D8A := Lib.hid ((D8K.out).fr0 FA (fun v t h => h.fr0 FA))
  have D6A := Lib.hid ((D6K.out).fr0 FA (fun v t h => h.fr0 FA))
  have Y6A := Lib.hid ((Y6K.out).fr0 FA)
  have GA := Lib.hid (Fr0.trans (GK.out) FA)
  have FWA := Lib.hid (Fr0.trans (FWK.out) FA)
  have hg6 := (Y6K.out).lt
  have hgw := (GK.out).size
  obtain ⟨w14, hw14⟩ : ∃ W, W = wm.alloc (.cells #[.int .i64 0, .slice none 0 0] 24) := ⟨_, rfl⟩
  obtain ⟨g14, hg14⟩ : ∃ g, g = wm.heap.size := ⟨_, rfl⟩
  rw [← hw14] at Y14 X14 D8A D6A Y6A GA FWA ⊢
  rw [← hg14] at Y14 hg6 hgw ⊢
  clear hw14 hg14 FA X11 D8K D6K Y6K GK FWK x0 x1
  have HG6 := Lib.hid hg6
  have HGW := Lib.hid hgw
  clear hg6 hgw
  go_cut [] (fun wx => Fr0 W5 wx ∧ DsG (SlO W5.heap.size) W5.heap.size wx (.slice B12 nL c12) LN ∧ DsG (SlO W5.heap.size) W5.heap.size wx (.slice B8 nA c8) lA ∧ Blk wx g8 #[.int .i64 pA, .slice B8 nA c8] 24 ∧ ∃ Bx cx, Blk wx g14 #[.int .i64 0, .slice Bx nL cx] 24 ∧ Ds wx (.slice Bx nL cx) LN)
  case first =>
    cases s
    case false =>
      obtain rfl : LN = [] := HLN.out rfl
      obtain rfl : nL = 0 := HNLL.out
      go_wp2_with fail
      go_meet
      exact ⟨GA.out, D8A.out, D6A.out, Y6A.out, none, 0, Y14.out, Ds.nil _⟩
    case true =>
      have x0 := (X14.out).cell 0 rfl
      have x1 := (X14.out).cell 1 rfl
      go_wp2_with (first
        | (go_at_call 17; refine (HRS1.out _ rfl FWA.out).mono ?_; rintro e w15 ⟨B6, c6, rfl, hd, hf⟩; have D15 := Lib.hid hd; have F15 := Lib.hid hf; have V14 := Lib.hid ((Y14.out).fr0 hf); have v0 := (V14.out).free 1; have v1 := (V14.out).cell 1 rfl; clear hd hf))
      go_meet
      exact ⟨Fr0.new (Fr0.trans GA.out F15.out) ((Fr1.refl g14 w15).set 1 _) HGW.out, ((D8A.out).fr0 F15.out (fun v t h => h.fr0 F15.out)).frS ((Fr1.refl g14 w15).set 1 _) V14.out (by decide) (by decide),
        ((D6A.out).fr0 F15.out (fun v t h => h.fr0 F15.out)).frS ((Fr1.refl g14 w15).set 1 _) V14.out (by decide) (by decide), ((Y6A.out).fr0 F15.out).fr1 ((Fr1.refl g14 w15).set 1 _) (by have := HG6.out; omega), B6, c6, (V14.out).set 1 _, want_set D15.out F15.out Y14.out _⟩
  case rest =>
    obtain ⟨hG, hD8, hD6, hY6, Bx, cx, hY14, hDx⟩ := hcut
    have HS2 := Lib.hid (show Calls Try.prog 16 #[.agg #[.int .i64 0, .slice B12 nL c12], .agg #[.int .i64 0, .slice Bx nL cx]] wc fun e w' => e = .returned (.bool true) ∧ Fr0 wc w' from by
      have h1 := hD8.ds (fun v t h => h.rd)
      rw [HNLL.out] at hDx h1 ⊢
      have := rsame_any (b := 0) (b2 := 0) h1 hDx
      rwa [decide_eq_true ⟨rfl, rfl⟩] at this)
    have nl63 : nL ≤ 9223372036854775807 := by have := (hD8.ds (fun v t h => h.rd)).le63; rw [← HNLL.out] at this; exact this
    have na63 : nA ≤ 9223372036854775807 := by have := (hD6.ds (fun v t h => h.rd)).le63; rw [← HNA.out] at this; exact this
    have y0 := hY14.cell 0 rfl
    have y1 := hY14.cell 1 rfl
    have E8 := Lib.hid hD8.any
    have E6 := Lib.hid hD6.any
    have EG := Lib.hid hG
    have EY := Lib.hid hY6
    clear hG hD8 hD6 hY6 hDx hY14 Y14 X14 D8A D6A Y6A GA FWA HRS1
    go_upto_region 28 with (first
      | (go_at_call 16; refine (HS2.out).mono ?_; rintro e w16 ⟨rfl, hf⟩; have F16 := Lib.hid hf; clear hf))
    have E8 := Lib.hid ((E8.out).fr0 F16.out (fun v t ⟨d, h1, h2⟩ => ⟨d, h1, h2.fr0 F16.out⟩))
    have E6 := Lib.hid ((E6.out).fr0 F16.out (fun v t ⟨d, h1, h2⟩ => ⟨d, h1, h2.fr0 F16.out⟩))
    have EG := Lib.hid (Fr0.trans EG.out F16.out)
    have EY := Lib.hid ((EY.out).fr0 F16.out)
    clear y0 y1 HS2
    go_wp2_with fail
    go_loopw [15] (fun v15 wr => ∃ i : Nat, i ≤ nL ∧ v15 = .int .i64 i ∧ Fr0 W5 wr ∧ DsG (AnyT W5.heap.size) W5.heap.size wr (.slice B12 nL c12) LN ∧ DsG (AnyT W5.heap.size) W5.heap.size wr (.slice B8 nA c8) lA ∧ Blk wr g8 #[.int .i64 pA, .slice B8 nA c8] 24) (fun v15 _ => nL - (intOf v15).toNat)
    case atStart => exact ⟨0, by omega, rfl, EG.out, E8.out, E6.out, EY.out⟩
    case round =>
      obtain ⟨i, hi, rfl, hG, hD8, hD6, hY6⟩ := hrel
      clear E8 E6 EG EY F16
      by_cases hlt : i < nL
      · have hil : i < LN.length := by rw [← HNLL.out]; exact hlt
        have HIL := Lib.hid hil
        obtain ⟨g, off, B, e, d, hA, hic, hcell, hdl, hds⟩ := hD8.text hil
        subst hA
        obtain ⟨tl, htl⟩ : ∃ q, q = LN[i].t.length := ⟨_, rfl⟩
        have HTL := Lib.hid htl
        have tl63 : tl ≤ 9223372036854775807 := by
          obtain ⟨_, cd, _, hd1, hd2, _⟩ := hds.rd.form
          unfold maxLen at hd2
          omega
        clear htl hcell hdl hds
        have i0 : (0 : Int) ≤ (i : Int) := by omega
        have i1 : (i : Int) < (nL : Int) := by omega
        have KG := Lib.hid hG
        have K8 := Lib.hid hD8
        have K6 := Lib.hid hD6
        have KY := Lib.hid hY6
        clear hG hD8 hD6 hY6 hil
        go_wp2_with fail
        go_loopw [16] (fun v16 wx => ∃ k : Nat, k ≤ tl ∧ v16 = .int .i64 k ∧ Fr0 W5 wx ∧ DsG (AnyT W5.heap.size) W5.heap.size wx (.slice (some ⟨g, off, none⟩) nL c12) LN ∧ DsG (AnyT W5.heap.size) W5.heap.size wx (.slice B8 nA c8) lA ∧ Blk wx g8 #[.int .i64 pA, .slice B8 nA c8] 24) (fun v16 _ => tl - (intOf v16).toNat)
        case atStart => exact ⟨0, by omega, rfl, KG.out, K8.out, K6.out, KY.out⟩
        case round =>
          obtain ⟨k, hk, rfl, hG, hD8, hD6, hY6⟩ := hrel
          clear KG K8 K6 KY
          by_cases hkt : k < tl
          · obtain ⟨g', off', e', gb, ob, z, hA, -, hc1, hke, hc2, hz, hfz, hbg, cur, hcur⟩ := hD8.poked HIL.out (j := k) (Nat.lt_of_lt_of_eq hkt HTL.out)
            injection hA with hA
            injection hA with hg hof
            subst hg hof
            replace hc1 := hc1.trans (congrArg (fun q => some (Value.slice (some ⟨gb, ob, none⟩) q e')) (HTL.out).symm)
            have k0 : (0 : Int) ≤ (k : Int) := by omega
            have k1 : (k : Int) < (tl : Int) := by omega
            have KG := Lib.hid hG
            have K8 := Lib.hid hD8
            have K6 := Lib.hid hD6
            have KY := Lib.hid hY6
            have KC := Lib.hid hcur
            have KB := Lib.hid hbg
            have hu := u8_more z hz
            have hu2 := hu
            rw [IntKind.wrap_u8'] at hu2
            have HU := Lib.hid hu2
            clear hG hD8 hD6 hY6 hcur hbg hu2
            go_wp2_with fail
            go_roundw
            case measure => simp [intOf]; omega
            case rel =>
              first | rw [HU.out] | skip
              exact ⟨k + 1, by omega, by go_num, Fr0.new KG.out ((Fr1.refl gb wr).set _ _) KB.out, (K8.out).poke KC.out _ _, (K6.out).poke KC.out _ _, (KY.out).other (p := ⟨gb, ob + k, none⟩) ((KY.out).ne KC.out (by decide)) _⟩
          · obtain rfl : k = tl := by omega
            obtain ⟨g', off', B', e', d', hA, -, hc1, -, -⟩ := hD8.text HIL.out
            injection hA with hA
            injection hA with hg hof
            subst hg hof
            replace hc1 := hc1.trans (congrArg (fun q => some (Value.slice B' q e')) (HTL.out).symm)
            have KG := Lib.hid hG
            have K8 := Lib.hid hD8
            have K6 := Lib.hid hD6
            have KY := Lib.hid hY6
            clear hG hD8 hD6 hY6
            go_wp2_with fail
            go_roundw
            case measure => simp [intOf]; omega
            case rel => exact ⟨i + 1, by omega, by go_num, KG.out, K8.out, K6.out, KY.out⟩
      · obtain rfl : i = nL := by omega
        have KG := Lib.hid hG
        have K6 := Lib.hid hD6
        have KY := Lib.hid hY6
        clear hG hD8 hD6 hY6
        go_wp2_with fail
        go_loopw [17] (fun v17 wr => ∃ i : Nat, i ≤ nA ∧ v17 = .int .i64 i ∧ Fr0 W5 wr ∧ DsG (AnyT W5.heap.size) W5.heap.size wr (.slice B8 nA c8) lA ∧ Blk wr g8 #[.int .i64 pA, .slice B8 nA c8] 24) (fun v17 _ => nA - (intOf v17).toNat)
        case atStart => exact ⟨0, by omega, rfl, KG.out, K6.out, KY.out⟩
        case round =>
          obtain ⟨i, hi, rfl, hG, hD6, hY6⟩ := hrel
          clear KG K6 KY
          by_cases hlt : i < nA
          · have hil : i < lA.length := by rw [← HNA.out]; exact hlt
            have HIL := Lib.hid hil
            obtain ⟨g, off, B, e, d, hA, hic, hcell, hdl, hds⟩ := hD6.text hil
            subst hA
            obtain ⟨tl, htl⟩ : ∃ q, q = lA[i].t.length := ⟨_, rfl⟩
            have HTL := Lib.hid htl
            have tl63 : tl ≤ 9223372036854775807 := by
              obtain ⟨_, cd, _, hd1, hd2, _⟩ := hds.rd.form
              unfold maxLen at hd2
              omega
            clear htl hcell hdl hds
            have i0 : (0 : Int) ≤ (i : Int) := by omega
            have i1 : (i : Int) < (nA : Int) := by omega
            have y0 := hY6.cell 0 rfl
            have y1 := hY6.cell 1 rfl
            have KG := Lib.hid hG
            have K6 := Lib.hid hD6
            have KY := Lib.hid hY6
            clear hG hD6 hY6 hil
            go_wp2_with fail
            clear y0 y1
            go_loopw [18] (fun v18 wx => ∃ k : Nat, k ≤ tl ∧ v18 = .int .i64 k ∧ Fr0 W5 wx ∧ DsG (AnyT W5.heap.size) W5.heap.size wx (.slice (some ⟨g, off, none⟩) nA c8) lA ∧ Blk wx g8 #[.int .i64 pA, .slice (some ⟨g, off, none⟩) nA c8] 24) (fun v18 _ => tl - (intOf v18).toNat)
            case atStart => exact ⟨0, by omega, rfl, KG.out, K6.out, KY.out⟩
            case round =>
              obtain ⟨k, hk, rfl, hG, hD6, hY6⟩ := hrel
              clear KG K6 KY
              have y0 := hY6.cell 0 rfl
              have y1 := hY6.cell 1 rfl
              by_cases hkt : k < tl
              · obtain ⟨g', off', e', gb, ob, z, hA, -, hc1, hke, hc2, hz, hfz, hbg, cur, hcur⟩ := hD6.poked HIL.out (j := k) (Nat.lt_of_lt_of_eq hkt HTL.out)
                injection hA with hA
                injection hA with hg hof
                subst hg hof
                replace hc1 := hc1.trans (congrArg (fun q => some (Value.slice (some ⟨gb, ob, none⟩) q e')) (HTL.out).symm)
                have k0 : (0 : Int) ≤ (k : Int) := by omega
                have k1 : (k : Int) < (tl : Int) := by omega
                have KG := Lib.hid hG
                have K6 := Lib.hid hD6
                have KY := Lib.hid hY6
                have KC := Lib.hid hcur
                have KB := Lib.hid hbg
                have hu := u8_more z hz
                have hu2 := hu
                rw [IntKind.wrap_u8'] at hu2
                have HU := Lib.hid hu2
                clear hG hD6 hY6 hcur hbg hu2
                go_wp2_with fail
                go_roundw
                case measure => simp [intOf]; omega
                case rel =>
                  first | rw [HU.out] | skip
                  exact ⟨k + 1, by omega, by go_num, Fr0.new KG.out ((Fr1.refl gb wr).set _ _) KB.out, (K6.out).poke KC.out _ _, (KY.out).other (p := ⟨gb, ob + k, none⟩) ((KY.out).ne KC.out (by decide)) _⟩
              · obtain rfl : k = tl := by omega
                obtain ⟨g', off', B', e', d', hA, -, hc1, -, -⟩ := hD6.text HIL.out
                injection hA with hA
                injection hA with hg hof
                subst hg hof
                replace hc1 := hc1.trans (congrArg (fun q => some (Value.slice B' q e')) (HTL.out).symm)
                have KG := Lib.hid hG
                have K6 := Lib.hid hD6
                have KY := Lib.hid hY6
                clear hG hD6 hY6
                go_wp2_with fail
                go_roundw
                case measure => simp [intOf]; omega
                case rel => exact ⟨i + 1, by omega, by go_num, KG.out, K6.out, KY.out⟩
          · obtain rfl : i = nA := by omega
            have y0 := hY6.cell 0 rfl
            have y1 := hY6.cell 1 rfl
            have X9 := Lib.hid ((X5.out).fr0 hG)
            have x0 := (X9.out).cell 0 rfl
            have x1 := (X9.out).cell 1 rfl
            have Y9 := Lib.hid ((Y5.out).fr0 hG)
            have z0 := (Y9.out).cell 0 rfl
            have z1 := (Y9.out).cell 1 rfl
            have HF := Lib.hid (HSL.out _ _ _ (Fr0.trans F5.out hG) ((D5.out).fr0 hG))
            have FG := Lib.hid (Fr0.trans F5.out hG)
            clear hG hD6 hY6
            go_wp2_with (first
              | (go_at_call 16; refine (HF.out).mono ?_; rintro e w17 ⟨rfl, hf⟩; have F17 := Lib.hid (Fr0.trans FG.out hf); clear hf))
            go_ret
            exact ⟨rfl, F17.out⟩
end Go.Proofs.Ytcbllkkbpjobpaa
