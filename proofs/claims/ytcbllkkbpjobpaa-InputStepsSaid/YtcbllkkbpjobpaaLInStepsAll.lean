/- InputSteps: what one stream has that another one has not, and any stream behind any bytes, are the document's, or refused; streams stay: the law returns true for any two streams and any bytes. No condition. -/
import Derived.Test.YtcbllkkbpjobpaaInApply
import Derived.Test.YtcbllkkbpjobpaaOwn
import Derived.Lib.SlBytesConst
import Derived.Test.YtcbllkkbpjobpaaInCut
import Derived.Test.YtcbllkkbpjobpaaWireRefText
import Derived.Test.YtcbllkkbpjobpaaInDiff
import Derived.Test.YtcbllkkbpjobpaaArgsOf
import Derived.Test.YtcbllkkbpjobpaaStepsG
set_option linter.unusedVariables false
set_option linter.unusedSimpArgs false
namespace Go.Proofs.Ytcbllkkbpjobpaa
open Go.RowKit

theorem form_lt (n : Nat) (h : n < 128) : form n = [UInt8.ofNat n] := by
  unfold form
  rw [show n / 128 = 0 by omega, hi_zero, show n % 128 = n by omega]; rfl
def d0 : Dd := ⟨1, [97, 98], 0, 0⟩
theorem f0 : formD d0 = [1, 2, 97, 98] := by
  unfold formD d0 textForm
  simp only [if_true]
  rw [show (1 : Int).toNat = 1 from rfl, form_lt 1 (by decide), show ([97, 98] : List UInt8).length = 2 from rfl, form_lt 2 (by decide)]
  rfl
theorem kA : addP 0 [] d0 = (0, [d0], 0) := by decide
theorem kC : cutP 0 [d0] 1 = (1, [], 0) := by decide
theorem kD : diffP 0 [] 0 [d0] = ([1, 2, 97, 98], 0) := by
  have h : diffP 0 [] 0 [d0] = (formsD (sinceL 0 [d0] (cntS 0 [])), 0) := by unfold diffP; rw [if_pos (by decide)]
  rw [h, show sinceL 0 [d0] (cntS 0 []) = [d0] by decide]
  unfold formsD
  simp [f0]
theorem kR : dRead [3, 4] = some [⟨3, [], 0, 0⟩, ⟨4, [], 0, 0⟩] := by decide
theorem kP : applyP 0 [] [3, 4] = (0, [⟨3, [], 0, 0⟩, ⟨4, [], 0, 0⟩], 0) := by
  unfold applyP
  rw [kR]
  decide
theorem k1_any (w : World) : Calls Try.prog 11 #[.agg #[.int .i64 0, .slice none 0 0], .agg #[.int .i64 1, .slice (some ⟨w.heap.size, 0, none⟩) 2 2, .int .i64 0, .int .i64 0]] (w.alloc (.cells #[.int .u8 97, .int .u8 98] 5 (2, 3))) fun e w' =>
    ∃ B c, e = .returned (.tuple #[.agg #[.int .i64 0, .slice B 1 c], .int .i64 0]) ∧ Ds w' (.slice B 1 c) [d0] ∧ Fr0 w w' := by
  have h := add_any (b := 0) (A := none) (c := 0) (l := []) (d := d0) (Bd := some ⟨w.heap.size, 0, none⟩) (ed := 2) (Ds.nil (w.alloc (.cells #[.int .u8 97, .int .u8 98] 5 (2, 3)))) (lit_bytes w 5 [97, 98] (by decide) (2, 3))
  refine Calls.mono h ?_
  rintro e w' ⟨B, c, he, hd, hf⟩
  rw [kA] at he hd
  exact ⟨B, c, he, hd.ds (fun v t h => h.rd), Fr0.trans ((Fr0.refl w).alloc _) hf⟩
theorem k2_any {B : Option Addr} {c : Nat} {w : World} (h : Ds w (.slice B 1 c) [d0]) : Calls Try.prog 12 #[.agg #[.int .i64 0, .slice B 1 c], .int .i64 1] w fun e w' => ∃ B' c', e = .returned (.tuple #[.agg #[.int .i64 1, .slice B' 0 c'], .int .i64 0]) ∧ Fr0 w w' := by
  refine (cut_any (b := 0) (m := 1) h (by decide)).mono ?_
  rintro e w' ⟨B', c', he, hd, hf⟩
  rw [kC] at he
  exact ⟨B', c', he, hf⟩
theorem k3_any {B : Option Addr} {c : Nat} {w : World} (h : Ds w (.slice B 1 c) [d0]) : Calls Try.prog 18 #[.agg #[.int .i64 0, .slice none 0 0], .agg #[.int .i64 0, .slice B 1 c]] w fun e w' => ∃ B' c', e = .returned (.tuple #[.slice B' 4 c', .int .i64 0]) ∧ RdB w' (.slice B' 4 c') [1, 2, 97, 98] ∧ Fr0 w w' := by
  refine (diff_any (b1 := 0) (b2 := 0) (l1 := []) (Ds.nil w) h).mono ?_
  rintro e w' ⟨B', c', he, hd, hf⟩
  rw [kD] at he hd
  exact ⟨B', c', he, hd, hf⟩
theorem k4_any (w : World) : Calls Try.prog 19 #[.agg #[.int .i64 0, .slice none 0 0], .slice (some ⟨w.heap.size, 0, none⟩) 2 2] (w.alloc (.cells #[.int .u8 3, .int .u8 4] 5)) fun e w' =>
    ∃ B c, e = .returned (.tuple #[.agg #[.int .i64 0, .slice B 2 c], .int .i64 0]) ∧ Ds w' (.slice B 2 c) [⟨3, [], 0, 0⟩, ⟨4, [], 0, 0⟩] ∧ Fr0 w w' := by
  have h := apply_any (b := 0) (A := none) (c := 0) (l := []) (D := [3, 4]) (Ds.nil (w.alloc (.cells #[.int .u8 3, .int .u8 4] 5))) (lit_bytes w 5 [3, 4] (by decide) (0, 0)) (by decide)
  refine Calls.mono h ?_
  rintro e w' ⟨B, c, he, hd, hf⟩
  rw [kP] at he hd
  exact ⟨B, c, he, hd.ds (fun v t h => h.rd), Fr0.trans ((Fr0.refl w).alloc _) hf⟩
theorem k5_any {B : Option Addr} {c : Nat} {w : World} (h : Ds w (.slice B 1 c) [d0]) : Calls Try.prog 23 #[.agg #[.int .i64 0, .slice B 1 c]] w fun e w' => e = .returned (.int .i64 1) ∧ Fr0 w w' := count_any (b := 0) h
set_option maxHeartbeats 4000000 in
set_option maxRecDepth 100000 in
theorem known21_any (w : World) : Calls Try.prog 8 #[] w fun e w' => e = .returned (.bool true) ∧ Fr0 w w' := by
  have hcv := fun (w : World) (C : Array Value) (n c : Nat) => Lib.run_convert_bytes_const (P := Try.prog) w 26 5 C n c Try.underlying26 Try.underlying5
  have q1 : ((str [1, 2, 97, 98]).toList == [1, 2, 97, 98]) = true := by rw [ByteArray.toList_eq]; rfl
  go_enter Try.func8, Try.ntmps8
  go_wp2_with (first
    | (go_at_call 11; refine (k1_any w).mono ?_; rintro e w1 ⟨B1, c1, rfl, hd, hf⟩; have F1 := Lib.hid (hf.alloc (.cells #[.int .i64 0, .slice B1 1 c1] 24)); have D1 := Lib.hid (hd.fr0 ((Fr0.refl w1).alloc (.cells #[.int .i64 0, .slice B1 1 c1] 24))); have X1 := Lib.hid (Blk.new w1 #[.int .i64 0, .slice B1 1 c1] 24); clear hd hf)
    | (go_at_call 12; refine (k2_any D1.out).mono ?_; rintro e w2 ⟨B2, c2, rfl, hf⟩; have G2 := hf.alloc (.cells #[.int .i64 1, .slice B2 0 c2] 24); have F2 := Lib.hid (Fr0.trans F1.out G2); have D2 := Lib.hid ((D1.out).fr0 G2); have X2 := Lib.hid ((X1.out).fr0 G2); have Y2 := Lib.hid (Blk.new w2 #[.int .i64 1, .slice B2 0 c2] 24); have s0 := ((X1.out).fr0 G2).cell 0 rfl; have s1 := ((X1.out).fr0 G2).cell 1 rfl; clear hf G2)
    | (go_at_call 18; refine (k3_any D2.out).mono ?_; rintro e w3 ⟨B3, c3, rfl, hr, hf⟩; have F3 := Lib.hid (Fr0.trans F2.out hf); have D3 := Lib.hid ((D2.out).fr0 hf); have X3 := Lib.hid ((X2.out).fr0 hf); have Y3 := Lib.hid ((Y2.out).fr0 hf); have R3 := Lib.hid hr; clear hf hr)
    | (go_at_call 19; refine (k4_any w3).mono ?_; rintro e w4 ⟨B4, c4, rfl, hd, hf⟩; have G4 := hf.alloc (.cells #[.int .i64 0, .slice B4 2 c4] 24); have F4 := Lib.hid (Fr0.trans F3.out G4); have D4 := Lib.hid ((D3.out).fr0 G4); have X4 := Lib.hid ((X3.out).fr0 G4); have Y4 := Lib.hid ((Y3.out).fr0 G4); have R4 := Lib.hid ((R3.out).fr0 G4); have Z4 := Lib.hid (Blk.new w4 #[.int .i64 0, .slice B4 2 c4] 24); have E4 := Lib.hid (hd.fr0 ((Fr0.refl w4).alloc (.cells #[.int .i64 0, .slice B4 2 c4] 24))); have u0 := (X4.out).cell 0 rfl; have u1 := (X4.out).cell 1 rfl; clear hf hd G4)
    | (go_at_call 23; refine (k5_any D4.out).mono ?_; rintro e w5 ⟨rfl, hf⟩; have F5 := Lib.hid (Fr0.trans F4.out hf); have v0 := ((Y4.out).fr0 hf).cell 0 rfl; have v1 := ((Y4.out).fr0 hf).cell 1 rfl; have v2 := ((Z4.out).fr0 hf).cell 1 rfl; have hcv3 := conv_ownN (n := 4) rfl ((R4.out).fr0 hf); obtain ⟨gE, oE, BE, eE, rfl, hlt, -, t0, -, -, -, -⟩ := ((E4.out).fr0 hf).cell (i := 1) (by decide); replace t0 : w5.cell? ⟨gE, oE + 4, none⟩ = some (.int .i64 4) := t0; clear hf))
  go_ret
  exact ⟨rfl, F5.out⟩
end Go.Proofs.Ytcbllkkbpjobpaa
set_option linter.unusedVariables false
set_option linter.unusedSimpArgs false
namespace Go.Proofs.Ytcbllkkbpjobpaa
open Go.RowKit

def smallT (x : Dd) : Bool := decide (x.t.length ≤ 100)
def greatS (l : List Dd) : Bool := decide (80 < l.length) || !(l.all smallT)
theorem greatS_no {l : List Dd} (h : greatS l = false) : l.length ≤ 80 ∧ ∀ x ∈ l, x.t.length ≤ 100 := by
  unfold greatS at h
  rw [Bool.or_eq_false_iff, decide_eq_false_iff_not, Bool.not_eq_false', List.all_eq_true] at h
  exact ⟨by omega, fun x hx => by have := h.2 x hx; unfold smallT at this; simpa using this⟩
set_option maxHeartbeats 4000000 in
theorem great_any {b : Int} {A : Option Addr} {c : Nat} {l : List Dd} {w : World} (h : Ds w (.slice A l.length c) l) :
    Calls Try.prog 9 #[.agg #[.int .i64 b, .slice A l.length c]] w fun e w' => e = .returned (.bool (greatS l)) ∧ Fr0 w w' := by
  have l63 := h.le63
  have FX := Lib.hid ((Fr0.refl w).alloc (.cells #[.int .i64 b, .slice A l.length c] 24))
  have BX := Lib.hid (Blk.new w #[.int .i64 b, .slice A l.length c] 24)
  have H := Lib.hid h
  have HP := Lib.hid (show greatS l = (decide (80 < l.length) || !(l.all smallT)) from rfl)
  obtain ⟨n, hn⟩ : ∃ n, n = l.length := ⟨_, rfl⟩
  obtain ⟨r, hr⟩ : ∃ n, n = greatS l := ⟨_, rfl⟩
  rw [← hn] at l63 FX BX H HP ⊢
  rw [← hr] at HP ⊢
  have HN := Lib.hid hn
  clear hn hr h
  by_cases h3 : 80 < n
  · have b3 : decide (80 < (n : Int)) = true := by simp; omega
    have b4 : decide (80 < n) = true := by simpa using h3
    have HR := Lib.hid (show r = true by rw [HP.out, decide_eq_true h3]; rfl)
    clear h3 HP
    go_enter Try.func9, Try.ntmps9
    go_wp2_with fail
    go_ret
    exact ⟨by rw [HR.out]; rfl, FX.out⟩
  have b3 : decide (80 < (n : Int)) = false := by simp; omega
  have b4 : decide (80 < n) = false := by simpa using h3
  have HR := Lib.hid (show r = !(l.all smallT) by rw [HP.out, decide_eq_false h3]; rfl)
  clear h3 HP
  go_enter Try.func9, Try.ntmps9
  go_wp2_with fail
  go_loopw [3] (fun v3 wr => ∃ k : Nat, k ≤ n ∧ v3 = .int .i64 k ∧ wr = w.alloc (.cells #[.int .i64 b, .slice A n c] 24) ∧ Hid ((l.take k).all smallT = true)) (fun v3 _ => n - (intOf v3).toNat)
  case atStart => exact ⟨0, Nat.zero_le _, rfl, rfl, Lib.hid (by simp)⟩
  case round =>
    obtain ⟨k, hk, rfl, rfl, hno⟩ := hrel
    have x1 := (BX.out).cell 1 rfl
    by_cases hlt : k < n
    · have i1 : (k : Int) < (n : Int) := by omega
      have p1 : k < l.length := by have := HN.out; omega
      have hx := ((H.out).fr0 FX.out).cell (i := k) p1
      have HX := Lib.hid (fun (h : smallT l[k] = false) => (by rw [List.all_eq_false]; exact ⟨l[k], List.getElem_mem p1, by simp [h]⟩ : l.all smallT = false))
      have HY := Lib.hid (fun (h1 : (l.take k).all smallT = true) (h : smallT l[k] = true) => (by rw [List.take_succ_eq_append_getElem p1, List.all_append, h1]; simp [h] : (l.take (k + 1)).all smallT = true))
      obtain ⟨x, hx1⟩ : ∃ x, x = l[k] := ⟨_, rfl⟩
      rw [← hx1] at hx HX HY
      obtain ⟨g, off, B, e, rfl, hkc, -, c0, c1, c2, c3, hrd⟩ := hx
      have x63 := hrd.le63
      clear hrd p1 hx1
      by_cases hs : x.t.length ≤ 100
      · have s1 : decide (100 < (x.t.length : Int)) = false := by simp; omega
        have s2 : decide (100 < x.t.length) = false := by simp; omega
        have HT := Lib.hid (HY.out hno.out (by unfold smallT; exact decide_eq_true hs))
        clear hs HX HY
        go_wp2_with fail
        go_roundw
        case rel => first | exact ⟨k + 1, by omega, by go_num, rfl, HT⟩ | exact ⟨k + 1, by omega, by go_num, trivial, HT⟩
        case measure => simp [intOf]; omega
      · have s1 : decide (100 < (x.t.length : Int)) = true := by simp; omega
        have s2 : decide (100 < x.t.length) = true := by simp; omega
        have HR2 := Lib.hid (show r = true by rw [HR.out, HX.out (by unfold smallT; exact decide_eq_false hs)]; rfl)
        clear hs HX HY
        go_wp2_with fail
        go_ret
        exact ⟨by rw [HR2.out]; rfl, FX.out⟩
    · obtain rfl : k = n := by omega
      have HR2 := Lib.hid (show r = false by rw [HR.out]; have := hno.out; rw [HN.out, List.take_length] at this; rw [this]; rfl)
      go_wp2_with fail
      go_ret
      exact ⟨by rw [HR2.out]; rfl, FX.out⟩
end Go.Proofs.Ytcbllkkbpjobpaa
set_option linter.unusedVariables false
set_option linter.unusedSimpArgs false
namespace Go.Proofs.Ytcbllkkbpjobpaa
open Go.RowKit

set_option maxHeartbeats 4000000 in
theorem rmay_any {b : Int} {A : Option Addr} {c : Nat} {l : List Dd} {w : World} (h : Ds w (.slice A l.length c) l) :
    Calls Try.prog 14 #[.agg #[.int .i64 b, .slice A l.length c]] w fun e w' => e = .returned (.bool (mayS b l)) ∧ Fr0 w w' := by
  have l63 := h.le63
  have FX := Lib.hid ((Fr0.refl w).alloc (.cells #[.int .i64 b, .slice A l.length c] 24))
  have BX := Lib.hid (Blk.new w #[.int .i64 b, .slice A l.length c] 24)
  have H := Lib.hid h
  have HP := Lib.hid (show mayS b l = (decide (0 ≤ b ∧ l.length ≤ 64 ∧ b + l.length ≤ 1073741824) && l.all mayD) from rfl)
  obtain ⟨n, hn⟩ : ∃ n, n = l.length := ⟨_, rfl⟩
  obtain ⟨r, hr⟩ : ∃ n, n = mayS b l := ⟨_, rfl⟩
  rw [← hn] at l63 FX BX H HP ⊢
  rw [← hr] at HP ⊢
  have HN := Lib.hid hn
  clear hn hr h
  by_cases h1 : b < 0
  · have b1 : decide (b < 0) = true := by simpa using h1
    have HR := Lib.hid (show r = false by rw [HP.out, decide_eq_false (by omega)]; rfl)
    clear h1 HP
    go_enter Try.func14, Try.ntmps14
    go_wp2_with fail
    go_ret
    exact ⟨by rw [HR.out]; rfl, FX.out⟩
  have b1 : decide (b < 0) = false := by simpa using h1
  by_cases h2 : 1073741824 < b
  · have b2 : decide (1073741824 < b) = true := by simpa using h2
    have HR := Lib.hid (show r = false by rw [HP.out, decide_eq_false (by omega)]; rfl)
    clear h1 h2 HP
    go_enter Try.func14, Try.ntmps14
    go_wp2_with fail
    go_ret
    exact ⟨by rw [HR.out]; rfl, FX.out⟩
  have b2 : decide (1073741824 < b) = false := by simpa using h2
  by_cases h3 : 64 < n
  · have b3 : decide (64 < (n : Int)) = true := by simp; omega
    have b4 : decide (64 < n) = true := by simpa using h3
    have HR := Lib.hid (show r = false by rw [HP.out, decide_eq_false (by omega)]; rfl)
    clear h1 h2 h3 HP
    go_enter Try.func14, Try.ntmps14
    go_wp2_with fail
    go_ret
    exact ⟨by rw [HR.out]; rfl, FX.out⟩
  have b3 : decide (64 < (n : Int)) = false := by simp; omega
  have b4 : decide (64 < n) = false := by simpa using h3
  have w1 : IntKind.i64.wrap (b + (n : Int)) = b + (n : Int) := by rw [IntKind.wrap_i64]; omega
  by_cases h4 : 1073741824 < b + (n : Int)
  · have b5 : decide (1073741824 < b + (n : Int)) = true := by simpa using h4
    have HR := Lib.hid (show r = false by rw [HP.out, decide_eq_false (by omega)]; rfl)
    clear h1 h2 h3 h4 HP
    go_enter Try.func14, Try.ntmps14
    go_wp2_with fail
    go_ret
    exact ⟨by rw [HR.out]; rfl, FX.out⟩
  have b5 : decide (1073741824 < b + (n : Int)) = false := by simpa using h4
  have HR := Lib.hid (show r = l.all mayD by rw [HP.out, decide_eq_true (by omega)]; rfl)
  have hn64 : n ≤ 64 := by omega
  clear h1 h2 h3 h4 HP
  go_enter Try.func14, Try.ntmps14
  go_wp2_with fail
  go_loopw [3] (fun v3 wr => ∃ k : Nat, k ≤ n ∧ v3 = .int .i64 k ∧ Fr0 (w.alloc (.cells #[.int .i64 b, .slice A n c] 24)) wr ∧ Hid ((l.take k).all mayD = true)) (fun v3 _ => n - (intOf v3).toNat)
  case atStart => exact ⟨0, Nat.zero_le _, rfl, Fr0.refl _, Lib.hid (by simp)⟩
  case round =>
    obtain ⟨k, hk, rfl, hfr, hno⟩ := hrel
    have x1 := ((BX.out).fr0 hfr).cell 1 rfl
    by_cases hlt : k < n
    · have i1 : (k : Int) < (n : Int) := by omega
      have p1 : k < l.length := by have := HN.out; omega
      have hx := ((H.out).fr0 (Fr0.trans FX.out hfr)).cell (i := k) p1
      have HX := Lib.hid (fun (h : mayD l[k] = false) => all_no p1 h)
      have HY := Lib.hid (fun (h1 : (l.take k).all mayD = true) (h : mayD l[k] = true) => all_take p1 h1 h)
      obtain ⟨x, hx1⟩ : ∃ x, x = l[k] := ⟨_, rfl⟩
      rw [← hx1] at hx HX HY
      obtain ⟨g, off, B, e, rfl, hkc, -, c0, c1, c2, c3, hrd⟩ := hx
      have HC := Lib.hid (fun W => rdeed_any x.kind x.rows x.cols B x.t.length e W (by have := hrd.le63; omega))
      have F := Lib.hid hfr
      have HD := Lib.hid (show mayN x.kind x.t.length x.rows x.cols = mayD x from rfl)
      rw [HD.out] at HC
      clear hrd hfr HD p1 hx1
      obtain ⟨m, hm⟩ : ∃ m, m = mayD x := ⟨_, rfl⟩
      rw [← hm] at HC HX HY
      clear hm
      cases m
      · have HR2 := Lib.hid (show r = false by rw [HR.out, HX.out rfl])
        go_wp2_with (go_at_call 15; refine (HC.out _).mono ?_; rintro e w1 ⟨rfl, hf⟩; have F1 := Lib.hid (Fr0.trans F.out hf); clear hf)
        go_ret
        exact ⟨by rw [HR2.out]; rfl, Fr0.trans FX.out F1.out⟩
      · have HT := Lib.hid (HY.out hno.out rfl)
        go_wp2_with (go_at_call 15; refine (HC.out _).mono ?_; rintro e w1 ⟨rfl, hf⟩; have F1 := Lib.hid (Fr0.trans F.out hf); clear hf)
        go_roundw
        case rel => exact ⟨k + 1, by omega, by go_num, F1.out, HT⟩
        case measure => simp [intOf]; omega
    · obtain rfl : k = n := by omega
      have F := Lib.hid hfr
      have HR2 := Lib.hid (show r = true by rw [HR.out]; have := hno.out; rw [HN.out, List.take_length] at this; exact this)
      clear hfr
      go_wp2_with fail
      go_ret
      exact ⟨by rw [HR2.out]; rfl, Fr0.trans FX.out F.out⟩
set_option maxHeartbeats 4000000 in
set_option maxRecDepth 100000 in
theorem rsame_any {b b2 : Int} {A A2 : Option Addr} {c c2 : Nat} {l l2 : List Dd} {w : World} (h : Ds w (.slice A l.length c) l) (h2 : Ds w (.slice A2 l2.length c2) l2) :
    Calls Try.prog 16 #[.agg #[.int .i64 b, .slice A l.length c], .agg #[.int .i64 b2, .slice A2 l2.length c2]] w fun e w' => e = .returned (.bool (decide (b = b2 ∧ l = l2))) ∧ Fr0 w w' := by
  have l63 := h.le63
  have m63 := h2.le63
  obtain ⟨wa, hwa⟩ : ∃ W, W = (w.alloc (.cells #[.int .i64 b, .slice A l.length c] 24)).alloc (.cells #[.int .i64 b2, .slice A2 l2.length c2] 24) := ⟨_, rfl⟩
  have FX := Lib.hid (show Fr0 w wa by rw [hwa]; exact ((Fr0.refl w).alloc _).alloc _)
  have BX := Lib.hid (show Blk wa w.heap.size #[.int .i64 b, .slice A l.length c] 24 by rw [hwa]; exact (Blk.new w _ 24).alloc _)
  have BY := Lib.hid (show Blk wa (w.heap.size + 1) #[.int .i64 b2, .slice A2 l2.length c2] 24 by rw [hwa]; have := Blk.new (w.alloc (.cells #[.int .i64 b, .slice A l.length c] 24)) #[.int .i64 b2, .slice A2 l2.length c2] 24; simpa using this)
  have H := Lib.hid h
  have H2 := Lib.hid h2
  have HLL := Lib.hid (fun (e : l = l2) => congrArg List.length e)
  obtain ⟨n, hn⟩ : ∃ n, n = l.length := ⟨_, rfl⟩
  obtain ⟨m, hm⟩ : ∃ n, n = l2.length := ⟨_, rfl⟩
  obtain ⟨r, hr⟩ : ∃ n, n = decide (b = b2 ∧ l = l2) := ⟨_, rfl⟩
  rw [← hn] at l63 BX H HLL hwa ⊢
  rw [← hm] at m63 BY H2 HLL hwa ⊢
  rw [← hr]
  have HR := Lib.hid hr
  have HN := Lib.hid hn
  have HM := Lib.hid hm
  clear hn hm hr h h2
  subst hwa
  by_cases h1 : b = b2
  · have b1 : (b != b2) = false := by simpa using h1
    by_cases h3 : n = m
    · subst h3
      have HB := Lib.hid h1
      clear h1 m63
      go_enter Try.func16, Try.ntmps16
      go_wp2_with fail
      go_loopw [5] (fun v5 wr => ∃ k : Nat, k ≤ n ∧ v5 = .int .i64 k ∧ Fr0 ((w.alloc (.cells #[.int .i64 b, .slice A n c] 24)).alloc (.cells #[.int .i64 b2, .slice A2 n c2] 24)) wr ∧ Hid (l.take k = l2.take k)) (fun v5 _ => n - (intOf v5).toNat)
      case atStart => exact ⟨0, Nat.zero_le _, rfl, Fr0.refl _, Lib.hid (by simp)⟩
      case round =>
        obtain ⟨k, hk, rfl, hfr, heq⟩ := hrel
        have x1 := ((BX.out).fr0 hfr).cell 1 rfl
        by_cases hlt : k < n
        · have i1 : (k : Int) < (n : Int) := by omega
          have p1 : k < l.length := by have := HN.out; omega
          have p2 : k < l2.length := by have := HM.out; omega
          have hx := ((H.out).fr0 (Fr0.trans FX.out hfr)).cell (i := k) p1
          have hy := ((H2.out).fr0 (Fr0.trans FX.out hfr)).cell (i := k) p2
          have HT := Lib.hid (fun (h : l[k] = l2[k]) => take_eq_step p1 p2 heq.out h)
          have HNE := Lib.hid (fun (h : ¬ l[k] = l2[k]) => ne_at p1 p2 h)
          obtain ⟨x, hx1⟩ : ∃ x, x = l[k] := ⟨_, rfl⟩
          obtain ⟨y, hy1⟩ : ∃ y, y = l2[k] := ⟨_, rfl⟩
          rw [← hx1] at hx HT HNE
          rw [← hy1] at hy HT HNE
          obtain ⟨g, off, B, e, rfl, hkc, hgl, c0, c1, c2, c3, hrd⟩ := hx
          obtain ⟨g2, off2, B2, e2, rfl, hkc2, hgl2, d0, d1, d2, d3, hrd2⟩ := hy
          have F0 := (Fr0.refl wr).alloc (.cells #[.int .i64 x.kind, .slice B x.t.length e, .int .i64 x.rows, .int .i64 x.cols] 28)
          have F1 := Lib.hid (F0.alloc (.cells #[.int .i64 y.kind, .slice B2 y.t.length e2, .int .i64 y.rows, .int .i64 y.cols] 28))
          have y0 := F0.cell d0
          have y1 := F0.cell d1
          have y2 := F0.cell d2
          have y3 := F0.cell d3
          have z1 := (((BY.out).fr0 hfr).fr0 F0).cell 1 rfl
          have q1 := conv_own (hrd.fr0 F1.out)
          have q2 := conv_own (hrd2.fr0 F1.out)
          have t1 := strI x.t
          have t2 := strI y.t
          have F := Lib.hid hfr
          have HE := Lib.hid (dd_eq (x := x) (y := y))
          clear hrd hrd2 hfr hx1 hy1 F0 d0 d1 d2 d3 p1 p2
          obtain ⟨xk, xt, xr, xc⟩ := x
          obtain ⟨yk, yt, yr, yc⟩ := y
          simp only at HE HT HNE c0 c1 c2 c3 y0 y1 y2 y3 z1 q1 q2 t1 t2 F1
          by_cases e1 : xk = yk
          · have s1 : (xk != yk) = false := by simpa using e1
            by_cases e2 : xr = yr
            · have s2 : (xr != yr) = false := by simpa using e2
              by_cases e3 : xc = yc
              · have s3 : (xc != yc) = false := by simpa using e3
                by_cases e4 : xt = yt
                · have s4 : (xt != yt) = false := by simpa using e4
                  have s5 : (xt == yt) = true := by simpa using e4
                  have HT2 := Lib.hid (HT.out (by rw [e1, e2, e3, e4]))
                  clear e1 e2 e3 e4 HE
                  go_wp2_with fail
                  go_roundw
                  case rel => exact ⟨k + 1, by omega, by go_num, Fr0.trans F.out F1.out, HT2⟩
                  case measure => simp [intOf]; omega
                · have s4 : (xt != yt) = true := by simpa using e4
                  have s5 : (xt == yt) = false := by simpa using e4
                  have HR2 := Lib.hid (show r = false by rw [HR.out, decide_eq_false (fun h => HNE.out (fun h => e4 (by injection h)) h.2)])
                  clear e1 e2 e3 e4 HE
                  go_wp2_with fail
                  go_ret
                  exact ⟨by rw [HR2.out]; rfl, Fr0.trans FX.out (Fr0.trans F.out F1.out)⟩
              · have s3 : (xc != yc) = true := by simpa using e3
                have HR2 := Lib.hid (show r = false by rw [HR.out, decide_eq_false (fun h => HNE.out (fun h => e3 (by injection h)) h.2)])
                clear e1 e2 e3 HE
                go_wp2_with fail
                go_ret
                exact ⟨by rw [HR2.out]; rfl, Fr0.trans FX.out (Fr0.trans F.out F1.out)⟩
            · have s2 : (xr != yr) = true := by simpa using e2
              have HR2 := Lib.hid (show r = false by rw [HR.out, decide_eq_false (fun h => HNE.out (fun h => e2 (by injection h)) h.2)])
              clear e1 e2 HE
              go_wp2_with fail
              go_ret
              exact ⟨by rw [HR2.out]; rfl, Fr0.trans FX.out (Fr0.trans F.out F1.out)⟩
          · have s1 : (xk != yk) = true := by simpa using e1
            have HR2 := Lib.hid (show r = false by rw [HR.out, decide_eq_false (fun h => HNE.out (fun h => e1 (by injection h)) h.2)])
            clear e1 HE
            go_wp2_with fail
            go_ret
            exact ⟨by rw [HR2.out]; rfl, Fr0.trans FX.out (Fr0.trans F.out F1.out)⟩
        · obtain rfl : k = n := by omega
          have F := Lib.hid hfr
          have HR2 := Lib.hid (show r = true by
            rw [HR.out, decide_eq_true]
            refine ⟨HB.out, ?_⟩
            have := heq.out
            rw [HN.out] at this
            rw [List.take_length, List.take_of_length_le (by have := HM.out; have := HN.out; omega)] at this
            exact this)
          clear hfr
          go_wp2_with fail
          go_ret
          exact ⟨by rw [HR2.out]; rfl, Fr0.trans FX.out F.out⟩
    · have b2 : ((n : Int) != (m : Int)) = true := by simp; omega
      have b3 : (n != m) = true := by simpa using h3
      have HR2 := Lib.hid (show r = false by rw [HR.out, decide_eq_false (fun h => h3 (HLL.out h.2))])
      clear h1 h3
      go_enter Try.func16, Try.ntmps16
      go_wp2_with fail
      go_ret
      exact ⟨by rw [HR2.out]; rfl, FX.out⟩
  · have b1 : (b != b2) = true := by simpa using h1
    have HR2 := Lib.hid (show r = false by rw [HR.out, decide_eq_false (fun h => h1 h.1)])
    clear h1
    go_enter Try.func16, Try.ntmps16
    go_wp2_with fail
    go_ret
    exact ⟨by rw [HR2.out]; rfl, FX.out⟩
end Go.Proofs.Ytcbllkkbpjobpaa
set_option linter.unusedVariables false
set_option linter.unusedSimpArgs false
namespace Go.Proofs.Ytcbllkkbpjobpaa
open Go.RowKit

structure RfIn (w wr : World) (p : Nat) (D : List UInt8) (B : Option Addr) (c' k : Nat) (acc : List Dd) (A5 : Option Addr) (c5 : Nat) (d : List UInt8) : Prop where
  f : Fr0 w wr
  r : RefV w.heap.size wr p A5 c5 d 0
  dd : DsG (SlO w.heap.size) w.heap.size wr (.slice B k c') acc
  kk : acc.length = k
  rd : Reading D d acc
def lenAtR (w : World) (p : Nat) : Nat := match w.cell? ⟨p, 0, none⟩ with | some (.slice _ n _) => n | _ => 0
section
variable {w wr : World} {p : Nat} {D : List UInt8} {B : Option Addr} {c' k : Nat} {acc : List Dd} {A5 : Option Addr} {c5 : Nat} {d : List UInt8}
theorem RfIn.kd {wx : World} (h : RfIn w wr p D B c' k acc A5 c5 d) (hf : Fr1 p wr wx) : Fr0 w wx ∧ DsG (SlO w.heap.size) w.heap.size wx (.slice B k c') acc :=
  ⟨Fr0.new h.f hf h.r.ge, h.dd.frS hf h.r.blk (by decide) (by decide)⟩
theorem RefV.lenAt {e : Int} {B0 : Nat} (h : RefV B0 w p A5 c5 d e) : lenAtR w p = d.length := by
  unfold lenAtR
  rw [h.blk.cell 0 rfl]
  rfl
theorem RefV.frO {T : World → Value → List UInt8 → Prop} {B0 : Nat} {w w' : World} {v : Value} {l : List Dd} {p : Nat} {A : Option Addr} {c : Nat} {d : List UInt8} {e : Int} (h : RefV B0 w p A c d e) (D : DsG T B0 w v l) (hf : Fr (ownB v) w w') : RefV B0 w' p A c d e :=
  ⟨h.blk.fr hf (fun hs => D.ne h.blk (by decide) _ hs rfl), Rd.fr h.rd hf (fun h0 g hg hs => by have h1 := h.lt h0 g hg; have h2 := (D.lo g hs).1; omega), h.lt, h.ge⟩
end
/-- The reading up to the text. -/
def midD (q1 : Nat) (r1 : List UInt8) (e1 : Int) : Dd × List UInt8 × Int := if q1 = 1 then (⟨1, (rText r1 e1 16).1, 0, 0⟩, (rText r1 e1 16).2.1, (rText r1 e1 16).2.2) else (⟨q1, [], 0, 0⟩, r1, e1)
def ReadR (w wr : World) (p g7 : Nat) (x : Dd × List UInt8 × Int) (wx : World) : Prop :=
  ∃ (Bx : Option Addr) (ex : Nat) (A5 : Option Addr) (c5 : Nat), Blk wx g7 (ddA x.1 Bx ex) 28 ∧ RefV w.heap.size wx p A5 c5 x.2.1 x.2.2 ∧ SlO w.heap.size wx (.slice Bx x.1.t.length ex) x.1.t ∧ Fr1 p wr wx
/-- What Read hands back. -/
def ReadOut (w : World) (D : List UInt8) (e : Ending) (w' : World) : Prop := ∃ (ok : Bool) (B : Option Addr) (c' : Nat) (L : List Dd), e = .returned (.tuple #[.slice B L.length c', .bool ok]) ∧ DsG (SlO w.heap.size) w.heap.size w' (.slice B L.length c') L ∧ Fr0 w w' ∧ Hid ((ok = true ∧ dRead D = some L) ∨ (ok = false ∧ dRead D = none ∧ L = []))
set_option maxHeartbeats 8000000 in
set_option maxRecDepth 100000 in
theorem rread_any {vb : Value} {D : List UInt8} {w : World} (hb : RdB w vb D) (hn : D.length ≤ 100000) :
    Calls Try.prog 36 #[vb] w (ReadOut w D) := by
  obtain ⟨Ab, cb, rfl, -⟩ := hb.form
  have hbl := hb.blk_lt
  have R0 := Lib.hid (show RefV w.heap.size (w.alloc (.cells #[.slice Ab D.length cb, .int .i64 0] 76)) w.heap.size Ab cb D 0 from ⟨Blk.new w _ 76, hb.fr0 ((Fr0.refl w).alloc _), fun h0 g hg => Rd.blk_lt hb h0 g hg, Nat.le_refl _⟩)
  have F0 := Lib.hid ((Fr0.refl w).alloc (.cells #[.slice Ab D.length cb, .int .i64 0] 76))
  have RS := Lib.hid (Reading.start D)
  obtain ⟨nb, hnb⟩ : ∃ s, s = D.length := ⟨_, rfl⟩
  have HNB := Lib.hid hnb
  rw [← hnb] at hn F0 ⊢
  clear hb hbl
  unfold ReadOut
  go_enter Try.func36, Try.ntmps36
  go_upto_region 3 with (fail)
  rw [hnb]
  clear hnb
  go_loopw [5] (fun v5 wr => ∃ (k : Nat) (B : Option Addr) (c' : Nat) (acc : List Dd) (A5 : Option Addr) (c5 : Nat) (d : List UInt8), v5 = .slice B k c' ∧ Hid (RfIn w wr w.heap.size D B c' k acc A5 c5 d)) (fun _ wr => lenAtR wr w.heap.size)
  case atStart => exact ⟨0, none, 0, [], Ab, cb, D, rfl, Lib.hid ⟨(Fr0.refl w).alloc _, R0.out, DsG.nil _ _ _, rfl, RS.out⟩⟩
  case round =>
    obtain ⟨k, B, c', acc, A5, c5, d, rfl, hI⟩ := hrel
    have I := hI
    clear hI RS R0 F0
    have l0 := (I.out).r.blk.cell 0 rfl
    have PL := Lib.hid ((I.out).r.blk.lt)
    have HLA := Lib.hid ((I.out).r.lenAt)
    obtain ⟨nd, hnd⟩ : ∃ n, n = d.length := ⟨_, rfl⟩
    have l0' : wr.cell? ⟨w.heap.size, 0, none⟩ = some (.slice A5 nd c5) := by rw [hnd]; exact l0
    rw [← hnd] at HLA
    have ND := Lib.hid hnd
    clear hnd l0
    by_cases h0 : nd = 0
    · subst h0
      have HD := Lib.hid (show dRead D = some acc from by
        have h := (I.out).rd
        rw [List.eq_nil_of_length_eq_zero (ND.out).symm] at h
        exact h.done)
      have KK := Lib.hid (I.out).kk
      go_wp2_with fail
      go_ret2
      exact ⟨true, B, c', acc, by rw [KK.out]; rfl, by rw [KK.out]; exact (I.out).dd, (I.out).f, Lib.hid (.inl ⟨rfl, HD.out⟩)⟩
    · have DNE := Lib.hid (show d ≠ [] from fun e => h0 (by rw [ND.out, e]; rfl))
      have b0 : decide (0 < (nd : Int)) = true := by simp; omega
      have b00 : decide (0 < nd) = true := by simp; omega
      have NB := Lib.hid (show nd ≤ 100000 from by have h1 := (I.out).rd.le; have h2 := ND.out; have h3 := HNB.out; omega)
      have HN0 := Lib.hid (fnum_any (I.out).r (by have h1 := NB.out; have h2 := ND.out; omega))
      have RB := Lib.hid (fun h => (I.out).rd.bad DNE.out h)
      have RM := Lib.hid (fun h1 h2 => (I.out).rd.more DNE.out h1 h2)
      have HW := Lib.hid (show rawD d = (if (rNum d 0).1 = 1 then (⟨1, (rText (rNum d 0).2.1 (rNum d 0).2.2 16).1, 0, 0⟩, (rText (rNum d 0).2.1 (rNum d 0).2.2 16).2.1, (rText (rNum d 0).2.1 (rNum d 0).2.2 16).2.2)
        else if (rNum d 0).1 = 2 then
          (⟨2, [], winN (rNum (rNum d 0).2.1 (rNum d 0).2.2).1, winN (rNum (rNum (rNum d 0).2.1 (rNum d 0).2.2).2.1 (rNum (rNum d 0).2.1 (rNum d 0).2.2).2.2).1⟩, (rNum (rNum (rNum d 0).2.1 (rNum d 0).2.2).2.1 (rNum (rNum d 0).2.1 (rNum d 0).2.2).2.2).2.1, (rNum (rNum (rNum d 0).2.1 (rNum d 0).2.2).2.1 (rNum (rNum d 0).2.1 (rNum d 0).2.2).2.2).2.2)
        else (⟨if (rNum d 0).1 ≤ 4 then (rNum d 0).1 else 0, [], 0, 0⟩, (rNum d 0).2.1, (rNum d 0).2.2) : Dd × List UInt8 × Int) from rfl)
      have HQ := rNum_le d 0
      have HWL := Lib.hid (rawD_le d)
      obtain ⟨raw, hraw⟩ : ∃ r, r = rawD d := ⟨_, rfl⟩
      rw [← hraw] at HW HWL RB RM
      obtain ⟨Q, hq⟩ : ∃ r, r = rNum d 0 := ⟨_, rfl⟩
      rw [← hq] at HW HN0 HQ
      clear hraw hq h0
      obtain ⟨q1, r1, e1⟩ := Q
      simp only at HW HN0 HQ
      have R1L := Lib.hid (show r1.length ≤ 100000 by have h1 := NB.out; have h2 := ND.out; have h3 := HQ.1; omega)
      have E1Q := HQ.2.2.2
      clear HQ
      by_cases hq4 : 1 ≤ q1 ∧ q1 ≤ 4
      · obtain ⟨hqa, hqb⟩ := hq4
        have he : e1 = 0 := by
          by_cases h : e1 = 0
          · exact h
          · have := E1Q h; omega
        subst he
        have b1 : decide ((q1 : Int) < 1) = false := by simp; omega
        have b2 : decide (q1 < 1) = false := by simp; omega
        have b3 : decide (4 < (q1 : Int)) = false := by simp; omega
        have b4 : decide (4 < q1) = false := by simp; omega
        have b5 : (q1 == 0) = false := by simp; omega
        have y1 : IntKind.i64.wrap (q1 : Int) = q1 := by rw [IntKind.wrap_i64]; omega
        have HM := Lib.hid (show midD q1 r1 0 = (if q1 = 1 then (⟨1, (rText r1 0 16).1, 0, 0⟩, (rText r1 0 16).2.1, (rText r1 0 16).2.2) else (⟨q1, [], 0, 0⟩, r1, 0) : Dd × List UInt8 × Int) from rfl)
        have HW1 := Lib.hid (fun (h : q1 ≠ 2) => show raw = midD q1 r1 0 from by
          rw [HW.out, HM.out]
          by_cases h1 : q1 = 1
          · rw [if_pos h1, if_pos h1]
          · rw [if_neg h1, if_neg h1, if_neg h, if_pos hqb])
        have HW2 := Lib.hid (fun (h : q1 = 2) => show raw = (⟨2, [], winN (rNum r1 0).1, winN (rNum (rNum r1 0).2.1 (rNum r1 0).2.2).1⟩, (rNum (rNum r1 0).2.1 (rNum r1 0).2.2).2.1, (rNum (rNum r1 0).2.1 (rNum r1 0).2.2).2.2) from by rw [HW.out, if_neg (by omega), if_pos h])
        have WL := Lib.hid ((I.out).f.size)
        clear HW E1Q
        go_upto_if 33 with (first
          | (go_at_call 53; refine (HN0.out).mono ?_; rintro e w4 ⟨rfl, hf, A6, c6, hr⟩; have F5 := Lib.hid (Fr1.alloc hf (.cells #[.int .i64 (q1 : Int), .slice none 0 0, .int .i64 0, .int .i64 0] 28)); have R5 := Lib.hid (hr.fr0 ((Fr0.refl w4).alloc (.cells #[.int .i64 (q1 : Int), .slice none 0 0, .int .i64 0, .int .i64 0] 28))); have B5 := Lib.hid (Blk.new w4 #[.int .i64 (q1 : Int), .slice none 0 0, .int .i64 0, .int .i64 0] 28); have G4 := Lib.hid hf.size; have k1 := (hr.fr0 ((Fr0.refl w4).alloc (.cells #[.int .i64 0, .slice none 0 0, .int .i64 0, .int .i64 0] 28))).blk.cell 1 rfl; clear hf hr))
        obtain ⟨g7, hg7⟩ : ∃ g, g = w4.heap.size := ⟨_, rfl⟩
        rw [← hg7] at B5 G4
        rw [← hg7]
        clear hg7
        go_cut [] (fun wx => ReadR w wr w.heap.size g7 (midD q1 r1 0) wx)
        case first =>
          by_cases hk1 : q1 = 1
          · have HV := Lib.hid (show midD q1 r1 0 = (⟨1, (rText r1 0 16).1, 0, 0⟩, (rText r1 0 16).2.1, (rText r1 0 16).2.2) by rw [HM.out, if_pos hk1])
            have s1 : ((q1 : Int) == 1) = true := by rw [hk1]; rfl
            have s2 : (q1 == 1) = true := by rw [hk1]; rfl
            have EQ := Lib.hid (show (1 : Int) = q1 by omega)
            have HX := Lib.hid (ftext_any (most := 16) R5.out (by have := R1L.out; omega) (by omega))
            clear HM HW1 HW2 hk1
            go_wp2_with (first
              | (go_at_call 54; refine (HX.out).mono ?_; rintro e w6 ⟨v6, rfl, hown, hf, A7, c7, hr⟩; have S6 := Lib.hid (SlO.low (SlO.of_own hown) (Nat.le_trans WL.out (F5.out).size)); obtain ⟨A8, c8, rfl, -⟩ := (S6.out).form; have B6 := Lib.hid ((B5.out).fr1 hf (by have h1 := PL.out; have h2 := G4.out; omega)); have F6 := Lib.hid (Fr1.trans F5.out hf); have R6 := Lib.hid hr; have k1 := (B6.out).cell 1 rfl; have kg := (B6.out).free 1; clear hown hf hr))
            go_meet
            have V7 := (Fr1.refl g7 w6).set 1 (.slice A8 (rText r1 0 16).1.length c8)
            refine ⟨A8, c8, A7, c7, ?_, ?_, ?_, ?_⟩
            · rw [HV.out, EQ.out]; exact (B6.out).set 1 _
            · rw [HV.out]; exact (R6.out).fr1 V7 (by have h1 := WL.out; have h2 := G4.out; omega) (by have h1 := PL.out; have h2 := G4.out; omega)
            · rw [HV.out]; exact (S6.out).fr1 V7 B6.out (by decide)
            · exact Fr.new F6.out V7 (.inr G4.out)
          · have HV := Lib.hid (show midD q1 r1 0 = (⟨q1, [], 0, 0⟩, r1, 0) by rw [HM.out, if_neg hk1])
            have s1 : ((q1 : Int) == 1) = false := by simp; omega
            have s2 : (q1 == 1) = false := by simpa using hk1
            clear HM HW1 HW2 hk1
            go_wp2_with fail
            go_meet
            refine ⟨none, 0, A6, c6, ?_, ?_, ?_, ?_⟩
            · rw [HV.out]; exact B5.out
            · rw [HV.out]; exact R5.out
            · rw [HV.out]; exact SlO.nil _ _
            · exact F5.out
        case rest =>
          have MK := Lib.hid (show (midD q1 r1 0).1.kind = q1 from by
            rw [HM.out]
            by_cases h : q1 = 1
            · rw [if_pos h, h]; rfl
            · rw [if_neg h])
          have M2 := Lib.hid (fun (h : q1 = 2) => show midD q1 r1 0 = (⟨2, [], 0, 0⟩, r1, 0) from by rw [HM.out, if_neg (by omega), h]; rfl)
          obtain ⟨Bx, ex, A7, c7, hB, hR, hS, hF⟩ := hcut
          have NP := Lib.hid (show w.heap.size ≠ g7 ∧ wr.heap.size ≤ g7 ∧ w.heap.size ≤ g7 from by have h1 := PL.out; have h2 := G4.out; omega)
          clear k1 B5 F5 R5 HM HN0 G4
          obtain ⟨mid, hmid⟩ : ∃ m, m = midD q1 r1 0 := ⟨_, rfl⟩
          rw [← hmid] at MK M2 HW1 hB hR hS
          clear hmid
          obtain ⟨x, rr, er⟩ := mid
          simp only at MK hB hR hS
          have k0 : wc.cell? ⟨g7, 0, none⟩ = some (.int .i64 (q1 : Int)) := by rw [← MK.out]; exact hB.cell 0 rfl
          have B5 := Lib.hid hB
          have R5 := Lib.hid hR
          have S5 := Lib.hid hS
          have F5 := Lib.hid hF
          clear hB hR hS hF
          go_upto_if 38 with (fail)
          go_cut [] (fun wx => ReadR w wr w.heap.size g7 raw wx)
          case first =>
            by_cases hk2 : q1 = 2
            · have HV := Lib.hid (HW2.out hk2)
              have hm := M2.out hk2
              subst hk2
              injection hm with h1 h2
              injection h2 with h2 h3
              subst h1 h2 h3
              have HX := Lib.hid (fnum_any R5.out (by have := R1L.out; omega))
              have HY := Lib.hid (fun W A c (h : RefV w.heap.size W w.heap.size A c (rNum rr 0).2.1 (rNum rr 0).2.2) => fnum_any h (by have h1 := (rNum_le rr 0).1; have h2 := R1L.out; omega))
              obtain ⟨Q2, hq2⟩ : ∃ q, q = rNum rr 0 := ⟨_, rfl⟩
              rw [← hq2] at HV HX HY
              obtain ⟨Q3, hq3⟩ : ∃ q, q = rNum Q2.2.1 Q2.2.2 := ⟨_, rfl⟩
              rw [← hq3] at HV HY
              clear HW1 HW2 M2 MK hq2 hq3
              by_cases ha : Q2.1 ≤ 1000
              · have p1 : decide (1000 < (Q2.1 : Int)) = false := by simp; omega
                have p2 : decide (1000 < Q2.1) = false := by simp; omega
                have y2 : IntKind.i64.wrap (Q2.1 : Int) = Q2.1 := by rw [IntKind.wrap_i64]; omega
                have U2 := Lib.hid (show winN Q2.1 = Q2.1 by unfold winN; rw [if_pos ha])
                by_cases hbb : Q3.1 ≤ 1000
                · have p3 : decide (1000 < (Q3.1 : Int)) = false := by simp; omega
                  have p4 : decide (1000 < Q3.1) = false := by simp; omega
                  have y3 : IntKind.i64.wrap (Q3.1 : Int) = Q3.1 := by rw [IntKind.wrap_i64]; omega
                  have U3 := Lib.hid (show winN Q3.1 = Q3.1 by unfold winN; rw [if_pos hbb])
                  clear ha hbb
                  go_wp2_with (first
                    | (have _q := B6; go_at_call 53; refine (HY.out _ _ _ R6.out).mono ?_; rintro e w7 ⟨rfl, hf, A8, c8, hr⟩; have B7 := Lib.hid ((B6.out).fr1 hf (NP.out).1.symm); have F7 := Lib.hid (Fr1.trans F6.out hf); have R7 := Lib.hid hr; have S7 := Lib.hid ((S6.out).fr1 hf (R6.out).blk (by decide)); have k2 := (B7.out).cell 2 rfl; have kg := (B7.out).free 2; have k3 := (B7.out).cell 3 rfl; have kh := (B7.out).free 3; clear hf hr)
                    | (go_at_call 53; refine (HX.out).mono ?_; rintro e w6 ⟨rfl, hf, A8, c8, hr⟩; have B6 := Lib.hid ((B5.out).fr1 hf (NP.out).1.symm); have S6 := Lib.hid ((S5.out).fr1 hf (R5.out).blk (by decide)); have F6 := Lib.hid (Fr1.trans F5.out hf); have R6 := Lib.hid hr; clear hf hr))
                  go_meet
                  have V7 : Fr1 g7 w7 ((w7.setCell ⟨g7, 2, none⟩ (.int .i64 Q2.1)).setCell ⟨g7, 3, none⟩ (.int .i64 Q3.1)) := ((Fr1.refl g7 w7).set 2 _).set 3 _
                  refine ⟨Bx, ex, A8, c8, ?_, ?_, ?_, ?_⟩
                  · rw [HV.out, U2.out, U3.out]; exact ((B7.out).set 2 _).set 3 _
                  · rw [HV.out]; exact (R7.out).fr1 V7 (NP.out).2.2 (NP.out).1
                  · rw [HV.out]; exact (S7.out).fr1 V7 B7.out (by decide)
                  · exact Fr.new F7.out V7 (.inr (NP.out).2.1)
                · have p3 : decide (1000 < (Q3.1 : Int)) = true := by simp; omega
                  have p4 : decide (1000 < Q3.1) = true := by simp; omega
                  have HB := Lib.hid (RB.out (by rw [HV.out]; exact .inr (by unfold mayD mayN; simp [winN, if_neg hbb])))
                  clear ha hbb
                  go_wp2_with (first
                    | (have _q := B6; go_at_call 53; refine (HY.out _ _ _ R6.out).mono ?_; rintro e w7 ⟨rfl, hf, A8, c8, hr⟩; have F7 := Lib.hid (Fr1.trans F6.out hf); clear hf hr)
                    | (go_at_call 53; refine (HX.out).mono ?_; rintro e w6 ⟨rfl, hf, A8, c8, hr⟩; have B6 := Lib.hid hr.blk; have F6 := Lib.hid (Fr1.trans F5.out hf); have R6 := Lib.hid hr; clear hf hr))
                  go_ret2
                  exact ⟨false, none, 0, [], rfl, DsG.nil _ _ _, ((I.out).kd F7.out).1, Lib.hid (.inr ⟨rfl, HB.out, rfl⟩)⟩
              · have p1 : decide (1000 < (Q2.1 : Int)) = true := by simp; omega
                have p2 : decide (1000 < Q2.1) = true := by simp; omega
                have HB := Lib.hid (RB.out (by rw [HV.out]; exact .inr (by unfold mayD mayN; simp [winN, if_neg ha])))
                clear ha
                go_wp2_with (first
                  | (have _q := B6; go_at_call 53; refine (HY.out _ _ _ R6.out).mono ?_; rintro e w7 ⟨rfl, hf, A8, c8, hr⟩; have F7 := Lib.hid (Fr1.trans F6.out hf); clear hf hr)
                  | (go_at_call 53; refine (HX.out).mono ?_; rintro e w6 ⟨rfl, hf, A8, c8, hr⟩; have B6 := Lib.hid hr.blk; have F6 := Lib.hid (Fr1.trans F5.out hf); have R6 := Lib.hid hr; clear hf hr))
                go_ret2
                exact ⟨false, none, 0, [], rfl, DsG.nil _ _ _, ((I.out).kd F7.out).1, Lib.hid (.inr ⟨rfl, HB.out, rfl⟩)⟩
            · have HV := Lib.hid (HW1.out hk2)
              have s1 : ((q1 : Int) == 2) = false := by simp; omega
              have s2 : (q1 == 2) = false := by simpa using hk2
              clear HW1 HW2 M2 MK hk2
              go_wp2_with fail
              go_meet
              refine ⟨Bx, ex, A7, c7, ?_, ?_, ?_, ?_⟩
              · rw [HV.out]; exact B5.out
              · rw [HV.out]; exact R5.out
              · rw [HV.out]; exact S5.out
              · exact F5.out
          case rest =>
            obtain ⟨By, ey, A8, c8, hB, hR, hS, hF⟩ := hcut
            obtain ⟨y, ry, ey2⟩ := raw
            simp only at RM RB HWL hB hR hS hF
            have HMY := Lib.hid (fun W => rdeed_any y.kind y.rows y.cols By y.t.length ey W (by have := hS.rd.le63; omega))
            have HMD := Lib.hid (show mayN y.kind y.t.length y.rows y.cols = mayD y from rfl)
            rw [HMD.out] at HMY
            have K := Lib.hid ((I.out).kd hF)
            have RX := Lib.hid hR
            have SX := Lib.hid hS
            have k1 := hR.blk.cell 1 rfl
            obtain ⟨m, hm⟩ : ∃ m, m = mayD y := ⟨_, rfl⟩
            rw [← hm] at HMY RM RB
            obtain ⟨z0, z1, z2, z3⟩ := dd_cells hB
            clear hm hB hR hS hF HMD HW1 HW2 B5 R5 S5 F5 k0 MK M2
            by_cases he : ey2 = 0
            · subst he
              cases m
              · have HB := Lib.hid (RB.out (.inr rfl))
                clear RB RM
                go_wp2_with (first
                  | (go_at_call 15; refine (HMY.out _).mono ?_; rintro e w7 ⟨rfl, hf⟩; have F7 := Lib.hid (Fr0.trans (K.out).1 hf); clear hf))
                go_ret2
                exact ⟨false, none, 0, [], rfl, DsG.nil _ _ _, F7.out, Lib.hid (.inr ⟨rfl, HB.out, rfl⟩)⟩
              · have RM2 := Lib.hid (RM.out rfl rfl)
                have HLT := Lib.hid ((HWL.out).2.1 rfl)
                have hkb := Lib.hid (show k + 1 ≤ 1000000 by have h1 := (I.out).rd.le; have h2 := (I.out).kk; have h3 := HNB.out; omega)
                clear RB RM
                go_wp2_with (first
                  | (go_at_call 15; refine (HMY.out _).mono ?_; rintro e w7 ⟨rfl, hf⟩; have D7 := Lib.hid ((K.out).2.fr0 hf (fun v t h => h.fr0 hf)); have F7 := Lib.hid (Fr0.trans (K.out).1 hf); have R7 := Lib.hid ((RX.out).fr0 hf); have S7 := Lib.hid ((SX.out).fr0 hf); have y0 := hf.cell z0; have y1 := hf.cell z1; have y2 := hf.cell z2; have y3 := hf.cell z3; clear hf)
                  | (at_builtin; have _q := D7; refine list_append_ds (n := k) (m := 1) (base := w.heap.size) (T := SlO w.heap.size) (l2 := [(.slice By y.t.length ey, y)]) rfl _ _ rfl (by have h1 := (F7.out).size; simp; omega) ((D7.out).fr0 ((Fr0.refl w7).alloc _) (fun v t h => h.fr0 ((Fr0.refl w7).alloc _))) rfl (I.out).kk rfl (rd_dd (Blk.new w7 (ddA y By ey) 28)) rfl (by intro y' hy; rw [List.mem_singleton] at hy; subst hy; exact ((S7.out).fr0 ((Fr0.refl w7).alloc _)).rd) hkb.out (fun w' hf v t h => slo_keep ((D7.out).fr0 ((Fr0.refl w7).alloc _) (fun v t h => h.fr0 ((Fr0.refl w7).alloc _))) hf h) (fun w' hf y' hy => by rw [List.mem_singleton] at hy; subst hy; exact slo_keep ((D7.out).fr0 ((Fr0.refl w7).alloc _) (fun v t h => h.fr0 ((Fr0.refl w7).alloc _))) hf ((S7.out).fr0 ((Fr0.refl w7).alloc _))) ?_; intro A9 c9 w8 hD hF; have D8 := Lib.hid hD; have F8 := Lib.hid (show Fr0 w w8 from Fr.then ((F7.out).alloc _) hF (fun i hi hl => by have := ((D7.out).lo i hi).1; omega)); have R8 := Lib.hid (((R7.out).fr0 ((Fr0.refl w7).alloc _)).frO ((D7.out).fr0 ((Fr0.refl w7).alloc _) (fun v t h => h.fr0 ((Fr0.refl w7).alloc _))) hF); clear hD hF))
                go_roundw
                case measure =>
                  have h1 := (R8.out).lenAt
                  have h2 := HLT.out
                  have h3 := HLA.out
                  have h4 := ND.out
                  simp only [h1, h3]; omega
                case rel => exact ⟨k + 1, A9, c9, acc ++ [y], A8, c8, ry, rfl, Lib.hid ⟨F8.out, R8.out, D8.out, by rw [List.length_append, (I.out).kk]; rfl, RM2.out⟩⟩
            · have s1 : (ey2 != 0) = true := by simpa using he
              have HB := Lib.hid (RB.out (.inl he))
              clear RB RM he
              go_wp2_with fail
              go_ret2
              exact ⟨false, none, 0, [], rfl, DsG.nil _ _ _, (K.out).1, Lib.hid (.inr ⟨rfl, HB.out, rfl⟩)⟩
      · have HB := Lib.hid (RB.out (by
          rw [HW.out, if_neg (by omega)]
          by_cases h2 : q1 = 2
          · omega
          · rw [if_neg h2]
            refine .inr ?_
            by_cases h3 : q1 ≤ 4
            · have : q1 = 0 := by omega
              subst this; rfl
            · rw [if_neg h3]; rfl))
        clear HW RB RM
        by_cases he : e1 = 0
        · subst he
          by_cases hz : q1 < 1
          · have b1 : decide ((q1 : Int) < 1) = true := by simp; omega
            have b2 : decide (q1 < 1) = true := by simpa using hz
            have b3 : (q1 == 0) = true := by simp; omega
            clear hz hq4 E1Q
            go_wp2_with (first
              | (go_at_call 53; refine (HN0.out).mono ?_; rintro e w4 ⟨rfl, hf, A6, c6, hr⟩; have F4 := Lib.hid (((I.out).kd hf).1.alloc (.cells #[.int .i64 0, .slice none 0 0, .int .i64 0, .int .i64 0] 28)); have k1 := (hr.fr0 ((Fr0.refl w4).alloc (.cells #[.int .i64 0, .slice none 0 0, .int .i64 0, .int .i64 0] 28))).blk.cell 1 rfl; clear hf hr))
            go_ret2
            exact ⟨false, none, 0, [], rfl, DsG.nil _ _ _, F4.out, Lib.hid (.inr ⟨rfl, HB.out, rfl⟩)⟩
          · have b1 : decide ((q1 : Int) < 1) = false := by simp; omega
            have b2 : decide (q1 < 1) = false := by simpa using hz
            have b3 : (q1 == 0) = false := by simp; omega
            have b4 : decide (4 < (q1 : Int)) = true := by simp; omega
            have b5 : decide (4 < q1) = true := by simp; omega
            clear hz hq4 E1Q
            go_wp2_with (first
              | (go_at_call 53; refine (HN0.out).mono ?_; rintro e w4 ⟨rfl, hf, A6, c6, hr⟩; have F4 := Lib.hid (((I.out).kd hf).1.alloc (.cells #[.int .i64 0, .slice none 0 0, .int .i64 0, .int .i64 0] 28)); have k1 := (hr.fr0 ((Fr0.refl w4).alloc (.cells #[.int .i64 0, .slice none 0 0, .int .i64 0, .int .i64 0] 28))).blk.cell 1 rfl; clear hf hr))
            go_ret2
            exact ⟨false, none, 0, [], rfl, DsG.nil _ _ _, F4.out, Lib.hid (.inr ⟨rfl, HB.out, rfl⟩)⟩
        · have b1 : (e1 != 0) = true := by simpa using he
          clear he hq4 E1Q
          go_wp2_with (first
            | (go_at_call 53; refine (HN0.out).mono ?_; rintro e w4 ⟨rfl, hf, A6, c6, hr⟩; have F4 := Lib.hid (((I.out).kd hf).1.alloc (.cells #[.int .i64 0, .slice none 0 0, .int .i64 0, .int .i64 0] 28)); have k1 := (hr.fr0 ((Fr0.refl w4).alloc (.cells #[.int .i64 0, .slice none 0 0, .int .i64 0, .int .i64 0] 28))).blk.cell 1 rfl; clear hf hr))
          go_ret2
          exact ⟨false, none, 0, [], rfl, DsG.nil _ _ _, F4.out, Lib.hid (.inr ⟨rfl, HB.out, rfl⟩)⟩
end Go.Proofs.Ytcbllkkbpjobpaa
set_option linter.unusedVariables false
set_option linter.unusedSimpArgs false
namespace Go.Proofs.Ytcbllkkbpjobpaa
open Go.RowKit

set_option maxHeartbeats 4000000 in
set_option maxRecDepth 100000 in
theorem rapply_any {b : Int} {A : Option Addr} {c : Nat} {l : List Dd} {vb : Value} {D : List UInt8} {w : World} (hs : mayS b l = true) (h : Ds w (.slice A l.length c) l) (hb : RdB w vb D) (hn : D.length ≤ 100000) :
    Calls Try.prog 21 #[.agg #[.int .i64 b, .slice A l.length c], vb] w (AddOut w (applyP b l D)) := by
  obtain ⟨j1, j2, j3, -⟩ := mayS_bnd hs
  obtain ⟨wa, hwa⟩ : ∃ W, W = (w.alloc (.cells #[.int .i64 b, .slice A l.length c] 24)).alloc (.cells #[.int .i64 0, .slice none 0 0] 24) := ⟨_, rfl⟩
  have FX := Lib.hid (show Fr0 w wa by rw [hwa]; exact ((Fr0.refl w).alloc _).alloc _)
  have BX := Lib.hid (show Blk wa w.heap.size #[.int .i64 b, .slice A l.length c] 24 by rw [hwa]; exact (Blk.new w _ 24).alloc _)
  have BY := Lib.hid (show Blk wa (w.heap.size + 1) #[.int .i64 0, .slice none 0 0] 24 by rw [hwa]; have := Blk.new (w.alloc (.cells #[.int .i64 b, .slice A l.length c] 24)) #[.int .i64 0, .slice none 0 0] 24; simpa using this)
  obtain ⟨Ab, cb, rfl, -⟩ := hb.form
  have HR := Lib.hid (rread_any (hb.fr0 FX.out) hn)
  have HP := Lib.hid (show applyP b l D = (match dRead D with | none => (0, [], 4) | some l' => if mayS (b + l.length) l' = true then (b + (l.length : Int), l', 0) else (0, [], 5) : Int × List Dd × Int) from by unfold applyP cntS; rw [if_pos hs, if_pos hs]; cases dRead D <;> rfl)
  have WS := Lib.hid (show wa.heap.size = w.heap.size + 2 by rw [hwa]; simp)
  obtain ⟨n, hnl⟩ : ∃ n, n = l.length := ⟨_, rfl⟩
  obtain ⟨P, hP⟩ : ∃ s, s = applyP b l D := ⟨_, rfl⟩
  rw [← hnl] at BX HP hwa j2 j3 ⊢
  rw [← hP] at HP ⊢
  clear hnl hP hs hb
  have w1 : IntKind.i64.wrap (b + (n : Int)) = b + (n : Int) := by rw [IntKind.wrap_i64]; omega
  unfold AddOut
  subst hwa
  go_enter Try.func21, Try.ntmps21
  go_upto_region 2 with (first
    | (go_at_call 36; refine (HR.out).mono ?_; rintro e w2 ⟨ok, B2, c2, L, rfl, hd, hf, hok⟩; have F2 := Lib.hid (Fr0.trans FX.out hf); have X2 := Lib.hid ((BX.out).fr0 hf); have Y2 := Lib.hid ((BY.out).fr0 hf); have W2 := Lib.hid hf.size; have D2 := Lib.hid (hd.mono (b2 := w.heap.size) (T2 := SlO w.heap.size) (FX.out).size (fun v t h => h.low (FX.out).size)); clear hd hf))
  cases ok
  · have HV := Lib.hid (show P = (0, [], 4) by
      rcases hok.out with ⟨h, -⟩ | ⟨-, h, -⟩
      · cases h
      · rw [HP.out, h])
    clear hok HP
    have f0 := (Y2.out).free 0
    have f1 := (Y2.out).free 1
    have g0 := (Y2.out).cell 0 rfl
    have g1 := (Y2.out).cell 1 rfl
    go_wp21
    rw [HV.out]
    refine bodyPost_ret (v := .tuple #[.agg #[.int .i64 0, .slice none 0 0], .int .i64 4]) (sret2 rfl (blk_set2 Y2.out _ _) rfl rfl) rfl ⟨none, 0, rfl, DsG.nil _ _ _, fr_set2 F2.out (by omega) _ _⟩
  · have HV := Lib.hid (show P = (if mayS (b + (n : Int)) L = true then (b + (n : Int), L, 0) else (0, [], 5) : Int × List Dd × Int) by
      rcases hok.out with ⟨-, h⟩ | ⟨h, -⟩
      · rw [HP.out, h]
      · cases h)
    have x0 := (X2.out).cell 0 rfl
    have x1 := (X2.out).cell 1 rfl
    have HM := Lib.hid (fun W (hf : Fr0 w2 W) => rmay_any (b := b + (n : Int)) (l := L) (A := B2) (c := c2) (w := W) (((D2.out).fr0 hf (fun v t h => h.fr0 hf)).ds (fun v t h => h.rd)))
    have F3 := Lib.hid ((Fr0.refl w2).alloc (.cells #[.int .i64 (b + (n : Int)), .slice B2 L.length c2] 24))
    have Z3 := Lib.hid (Blk.new w2 #[.int .i64 (b + (n : Int)), .slice B2 L.length c2] 24)
    obtain ⟨m, hm⟩ : ∃ m, m = mayS (b + (n : Int)) L := ⟨_, rfl⟩
    rw [← hm] at HM HV
    clear hok HP hm
    cases m
    · have HV2 := Lib.hid (show P = (0, [], 5) by rw [HV.out]; rfl)
      clear HV
      go_upto_region 6 with (first
        | (go_at_call 14; refine (HM.out _ F3.out).mono ?_; rintro e w5 ⟨rfl, hf⟩; have F5 := Lib.hid (Fr0.trans F2.out (Fr0.trans F3.out hf)); have Y5 := Lib.hid ((Y2.out).fr0 (Fr0.trans F3.out hf)); clear hf))
      have f0 := (Y5.out).free 0
      have f1 := (Y5.out).free 1
      have g0 := (Y5.out).cell 0 rfl
      have g1 := (Y5.out).cell 1 rfl
      go_wp21
      rw [HV2.out]
      refine bodyPost_ret (v := .tuple #[.agg #[.int .i64 0, .slice none 0 0], .int .i64 5]) (sret2 rfl (blk_set2 Y5.out _ _) rfl rfl) rfl ⟨none, 0, rfl, DsG.nil _ _ _, fr_set2 F5.out (by omega) _ _⟩
    · have HV2 := Lib.hid (show P = (b + (n : Int), L, 0) by rw [HV.out]; rfl)
      clear HV
      go_upto_region 7 with (first
        | (go_at_call 14; refine (HM.out _ F3.out).mono ?_; rintro e w5 ⟨rfl, hf⟩; have F5 := Lib.hid (Fr0.trans F2.out (Fr0.trans F3.out hf)); have Y5 := Lib.hid ((Y2.out).fr0 (Fr0.trans F3.out hf)); have Z5 := Lib.hid ((Z3.out).fr0 hf); have D5 := Lib.hid ((D2.out).fr0 (Fr0.trans F3.out hf) (fun v t h => h.fr0 (Fr0.trans F3.out hf))); clear hf))
      have f0 := (Y5.out).free 0
      have f1 := (Y5.out).free 1
      have g0 := (Y5.out).cell 0 rfl
      have g1 := (Y5.out).cell 1 rfl
      have q0 := (Z5.out).cell 0 rfl
      have q1 := (Z5.out).cell 1 rfl
      go_wp21
      rw [HV2.out]
      refine bodyPost_ret (v := .tuple #[.agg #[.int .i64 (b + (n : Int)), .slice B2 L.length c2], .int .i64 0]) (sret2 rfl (blk_set2 Y5.out _ _) rfl rfl) rfl ⟨B2, c2, rfl, (D5.out).frS (fr1_set2 _ _ _ _) Y5.out (by decide) (by decide), fr_set2 F5.out (by omega) _ _⟩
end Go.Proofs.Ytcbllkkbpjobpaa
set_option linter.unusedVariables false
set_option linter.unusedSimpArgs false
namespace Go.Proofs.Ytcbllkkbpjobpaa
open Go.RowKit

set_option maxHeartbeats 4000000 in
set_option maxRecDepth 100000 in
theorem rform_any {x : Dd} {B : Option Addr} {e : Nat} {w : World} (h : RdB w (.slice B x.t.length e) x.t) (hm : mayD x = true) :
    Calls Try.prog 35 #[.agg #[.int .i64 x.kind, .slice B x.t.length e, .int .i64 x.rows, .int .i64 x.cols]] w fun e w' => ∃ v, e = .returned v ∧ RdB w' v (formD x) ∧ Fr0 w w' := by
  have hc := mayD_cases hm
  have HF := Lib.hid (show formD x = form x.kind.toNat ++ (if x.kind = 1 then textForm x.t else if x.kind = 2 then form x.rows.toNat ++ form x.cols.toNat else []) from rfl)
  have HT := Lib.hid (fun W (hf : Fr0 w W) => refText_any (h.fr0 hf) (by have := mayD_len hm; omega))
  have BX := Lib.hid (Blk.new w #[.int .i64 x.kind, .slice B x.t.length e, .int .i64 x.rows, .int .i64 x.cols] 28)
  have FX := Lib.hid ((Fr0.refl w).alloc (.cells #[.int .i64 x.kind, .slice B x.t.length e, .int .i64 x.rows, .int .i64 x.cols] 28))
  obtain ⟨D, hD⟩ : ∃ D, D = formD x := ⟨_, rfl⟩
  rw [← hD] at HF ⊢
  clear hm hD h
  obtain ⟨k, t, r, c⟩ := x
  simp only at hc HF HT BX FX ⊢
  have TL := Lib.hid (show (textForm t).length = (form t.length).length + t.length by simp [textForm])
  rcases hc with ⟨rfl, h2, h3, rfl, rfl⟩ | ⟨rfl, ⟨h2, h3⟩, ⟨h4, h5⟩, rfl⟩ | ⟨h1, rfl, rfl, rfl⟩
  · have HN := Lib.hid (fun W => rnum_i 1 (by omega) (by omega) W)
    have HD := Lib.hid (show D = form 1 ++ textForm t from HF.out)
    have hf1 := form_len_le (n := 1) (by omega)
    have hf2 : (textForm t).length ≤ 100 := by have := form_len_le (n := t.length) (by omega); have := TL.out; omega
    obtain ⟨f1, hg1⟩ : ∃ f, f = form 1 := ⟨_, rfl⟩
    obtain ⟨f2, hg2⟩ : ∃ f, f = textForm t := ⟨_, rfl⟩
    have HN0 := Lib.hid (fun W => show Calls Try.prog 51 #[.int .u64 1] W fun e w' => ∃ v, e = .returned v ∧ w'.ownsRow W.heap.size 5 1 v f1.length (byts f1) ∧ Fr0 W w' from by rw [hg1]; exact HN.out W)
    rw [← hg1, ← hg2] at HD
    rw [← hg1] at hf1
    rw [← hg2] at hf2 HT
    obtain ⟨n1, hn1⟩ : ∃ f, f = f1.length := ⟨_, rfl⟩
    obtain ⟨n2, hn2⟩ : ∃ f, f = f2.length := ⟨_, rfl⟩
    rw [← hn1] at HN0 hf1
    rw [← hn2] at hf2 HT
    clear HF h2 h3 HN hg1 hg2 hn1 hn2 TL
    go_enter Try.func35, Try.ntmps35
    go_wp2_with (first
      | (go_at_call 51; refine (HN0.out _).mono ?_; rintro e w1 ⟨v1, rfl, hown, hf⟩; have O1 := Lib.hid hown; have F1 := Lib.hid hf; have BY := (BX.out).fr0 hf; have c0 := BY.cell 0 rfl; have c1 := BY.cell 1 rfl; clear hown hf BY)
      | (go_at_call 52; refine (HT.out _ (Fr0.trans FX.out F1.out)).mono ?_; rintro e w2 ⟨v2, rfl, hown, hf⟩; have O2 := Lib.hid (own_fr O1.out hf (fun _ _ h => h)); have R2 := Lib.hid (Rd.of_own hown); have F2 := Lib.hid (Fr0.trans F1.out hf); clear hown hf)
      | (at_builtin; refine app_bytes (w0 := w.alloc (.cells #[.int .i64 1, .slice B t.length e, .int .i64 0, .int .i64 0] 28)) rfl _ _ rfl F2.out O2.out rfl R2.out rfl (by omega) ?_; intro A3 c3 w3 hown hf; have O3 := Lib.hid hown; have F3 := Lib.hid (Fr0.trans FX.out hf); have e0 := ((BX.out).fr0 hf).cell 0 rfl; clear hown hf))
    go_ret
    exact ⟨_, rfl, by have h3 := O3.out; rw [← HD.out] at h3; exact rdb_of (Rd.of_own h3), F3.out⟩
  · have HN := Lib.hid (fun W => rnum_i 2 (by omega) (by omega) W)
    have HN1 := Lib.hid (fun W => rnum_i r (by omega) (by omega) W)
    have HN2 := Lib.hid (fun W => rnum_i c (by omega) (by omega) W)
    have HD := Lib.hid (show D = form 2 ++ (form r.toNat ++ form c.toNat) from HF.out)
    have w1 : IntKind.u64.wrap r = r := by show r % 18446744073709551616 = _; omega
    have w2 : IntKind.u64.wrap c = c := by show c % 18446744073709551616 = _; omega
    have hb1 := form_len_le (n := 2) (by omega)
    have hb2 := form_len_le (n := r.toNat) (by omega)
    have hb3 := form_len_le (n := c.toNat) (by omega)
    obtain ⟨f1, hf1⟩ : ∃ f, f = form 2 := ⟨_, rfl⟩
    obtain ⟨f2, hf2⟩ : ∃ f, f = form r.toNat := ⟨_, rfl⟩
    obtain ⟨f3, hf3⟩ : ∃ f, f = form c.toNat := ⟨_, rfl⟩
    have HN0 := Lib.hid (fun W => show Calls Try.prog 51 #[.int .u64 2] W fun e w' => ∃ v, e = .returned v ∧ w'.ownsRow W.heap.size 5 1 v f1.length (byts f1) ∧ Fr0 W w' from by rw [hf1]; exact HN.out W)
    rw [← hf1, ← hf2, ← hf3] at HD
    rw [← hf1] at hb1
    rw [← hf2] at HN1 hb2
    rw [← hf3] at HN2 hb3
    obtain ⟨n1, hn1⟩ : ∃ f, f = f1.length := ⟨_, rfl⟩
    obtain ⟨n2, hn2⟩ : ∃ f, f = f2.length := ⟨_, rfl⟩
    obtain ⟨n3, hn3⟩ : ∃ f, f = f3.length := ⟨_, rfl⟩
    rw [← hn1] at HN0 hb1
    rw [← hn2] at HN1 hb2
    rw [← hn3] at HN2 hb3
    clear HF HN hf1 hf2 hf3 HT TL hn1 hn2 hn3
    go_enter Try.func35, Try.ntmps35
    go_wp2_with (first
      | (have _q := O3; go_at_call 51; refine (HN2.out _).mono ?_; rintro e w5 ⟨v5, rfl, hown, hf⟩; have O5 := Lib.hid (own_fr O3.out hf (fun _ _ h => h)); have R5 := Lib.hid (Rd.of_own hown); have F5 := Lib.hid (Fr0.trans F3.out hf); clear hown hf)
      | (have _q := O1; go_at_call 51; refine (HN1.out _).mono ?_; rintro e w2 ⟨v2, rfl, hown, hf⟩; have O2 := Lib.hid (own_fr O1.out hf (fun _ _ h => h)); have R2 := Lib.hid (Rd.of_own hown); have F2 := Lib.hid (Fr0.trans F1.out hf); clear hown hf)
      | (go_at_call 51; refine (HN0.out _).mono ?_; rintro e w1 ⟨v1, rfl, hown, hf⟩; have O1 := Lib.hid hown; have F1 := Lib.hid hf; have BY := (BX.out).fr0 hf; have c0 := BY.cell 0 rfl; have c2 := BY.cell 2 rfl; clear hown hf BY)
      | (at_builtin; have _q := O5; refine app_bytes (w0 := w.alloc (.cells #[.int .i64 2, .slice B 0 e, .int .i64 r, .int .i64 c] 28)) rfl _ _ rfl F5.out O5.out rfl R5.out rfl (by omega) ?_; intro A6 c6 w6 hown hf; have O6 := Lib.hid hown; have F6 := Lib.hid (Fr0.trans FX.out hf); clear hown hf)
      | (at_builtin; refine app_bytes (w0 := w.alloc (.cells #[.int .i64 2, .slice B 0 e, .int .i64 r, .int .i64 c] 28)) rfl _ _ rfl F2.out O2.out rfl R2.out rfl (by omega) ?_; intro A3 c3 w3 hown hf; have O3 := Lib.hid hown; have F3 := Lib.hid hf; have e3 := ((BX.out).fr0 hf).cell 3 rfl; have e0 := ((BX.out).fr0 hf).cell 0 rfl; clear hown hf))
    go_ret
    exact ⟨_, rfl, by have h3 := O6.out; rw [List.append_assoc, ← HD.out] at h3; exact rdb_of (Rd.of_own h3), F6.out⟩
  · have hk := Lib.hid h1
    have HN := Lib.hid (fun W => rnum_i k (by omega) (by omega) W)
    have HD := Lib.hid (show D = form k.toNat by rw [HF.out, if_neg (by omega), if_neg (by omega), List.append_nil])
    have b1 : (k == 1) = false := by simp; omega
    have b2 : (k == 2) = false := by simp; omega
    have w1 : IntKind.u64.wrap k = k := by show k % 18446744073709551616 = _; omega
    rw [← HD.out] at HN
    clear HF h1 HT TL HD
    go_enter Try.func35, Try.ntmps35
    go_wp2_with (first
      | (go_at_call 51; refine (HN.out _).mono ?_; rintro e w1 ⟨v1, rfl, hown, hf⟩; have O1 := Lib.hid hown; have F1 := Lib.hid (Fr0.trans FX.out hf); have c0 := ((BX.out).fr0 hf).cell 0 rfl; clear hown hf))
    go_ret
    exact ⟨_, rfl, RdB.of_own O1.out, F1.out⟩
set_option maxHeartbeats 4000000 in
theorem rforms_any {A : Option Addr} {c : Nat} {L : List Dd} {w : World} (h : Ds w (.slice A L.length c) L) (hm : ∀ x ∈ L, mayD x = true) (hl : L.length ≤ 64) :
    Calls Try.prog 20 #[.slice A L.length c] w fun e w' => ∃ B c', e = .returned (.slice B (formsD L).length c') ∧ RdB w' (.slice B (formsD L).length c') (formsD L) ∧ Fr0 w w' := by
  have D4 := Lib.hid h
  have LM := Lib.hid hm
  obtain ⟨n, hn⟩ : ∃ n, n = L.length := ⟨_, rfl⟩
  have HN := Lib.hid hn
  rw [← hn] at D4 hl ⊢
  have FB := Lib.hid (fun k => show (formsD (L.take k)).length ≤ 4000 from by
    have h1 := formsD_len (l := L.take k) (fun x hx => LM.out x (List.mem_of_mem_take hx))
    rw [List.length_take] at h1
    have h2 := HN.out
    omega)
  clear hn h hm
  go_enter Try.func20, Try.ntmps20
  go_wp2_with fail
  go_loopw [3, 4] (fun v3 v4 wr => ∃ (k q : Nat) (B : Option Addr) (c' : Nat), k ≤ n ∧ v3 = .slice B q c' ∧ v4 = .int .i64 k ∧ Fr0 w wr ∧ Hid (q = (formsD (L.take k)).length ∧ wr.ownsRow w.heap.size 5 1 (.slice B q c') q (byts (formsD (L.take k))))) (fun _ v4 _ => n - (intOf v4).toNat)
  case atStart => exact ⟨0, 0, none, 0, Nat.zero_le _, rfl, rfl, Fr0.refl _, Lib.hid ⟨by simp [formsD], by rw [List.take_zero]; exact World.ownsRow_nil _ _ _ _⟩⟩
  case round =>
    obtain ⟨k, q, B, c', hk, rfl, rfl, hfn, hO⟩ := hrel
    by_cases hlt : k < n
    · have i1 : (k : Int) < (n : Int) := by omega
      have p1 : k < L.length := by have := HN.out; omega
      have hx := ((D4.out).fr0 hfn).cell (i := k) p1
      have HTK := Lib.hid (formsD_take p1)
      have HMX := Lib.hid (LM.out _ (List.getElem_mem p1))
      obtain ⟨x, hx1⟩ : ∃ x, x = L[k] := ⟨_, rfl⟩
      rw [← hx1] at hx HTK HMX
      obtain ⟨g, off, Bx, ex, rfl, hkc, hgl, d0, d1, d2, d3, hr⟩ := hx
      have HC := Lib.hid (rform_any hr HMX.out)
      have HB := Lib.hid (FB.out (k + 1))
      have HFD := Lib.hid (formD_len HMX.out)
      have FN := Lib.hid hfn
      clear hr hfn p1 hx1
      go_wp2_with (first
        | (go_at_call 35; refine (HC.out).mono ?_; rintro e w5 ⟨v5, rfl, hr, hf⟩; obtain ⟨A5, c5, rfl, -⟩ := hr.form; have R5 := Lib.hid hr; have F5 := Lib.hid hf; clear hr hf)
        | (at_builtin; refine app_bytes (w0 := w) (L1 := formsD (L.take k)) (L2 := formD x) rfl _ _ rfl (Fr0.trans FN.out F5.out) (own_fr (hO.out).2 F5.out (fun _ _ h => h)) rfl R5.out rfl (by have h1 := (hO.out).1; have h2 := FB.out k; have h3 := HFD.out; omega) ?_; intro A6 c6 w6 hown hf; have O6 := Lib.hid hown; have F6 := Lib.hid hf; clear hown hf))
      go_roundw
      case measure => simp [intOf]; omega
      case rel => exact ⟨k + 1, _, _, _, by omega, rfl, by go_num, F6.out, Lib.hid ⟨by rw [HTK.out, List.length_append, ← (hO.out).1], by rw [HTK.out]; exact O6.out⟩⟩
    · obtain rfl : k = n := by omega
      have F := Lib.hid hfn
      have O := Lib.hid (show q = (formsD L).length ∧ RdB wr (.slice B q c') (formsD L) from by
        have h := hO.out
        rw [HN.out, List.take_length] at h
        exact ⟨h.1, rdb_of (Rd.of_own h.2)⟩)
      have HQ := Lib.hid (O.out).1
      clear hfn hO
      go_wp2_with fail
      go_ret
      exact ⟨B, c', by rw [← HQ.out]; rfl, by rw [← HQ.out]; exact (O.out).2, F.out⟩
end Go.Proofs.Ytcbllkkbpjobpaa
namespace Go.Proofs.Ytcbllkkbpjobpaa
open Go.ChangeShapes Go.WideShapes Go.ChangeAt Go.RowKit Go.Deep

section
variable {H : Type} {enc : TypeId × Value → H} {w : World} {base : Nat} {spare : Nat → Bool} {held : Bool}
theorem read_dd {n : Nat} {cs : List Value} {x : DataW H × List MemPlace} (h : DataW.trod enc Try.prog w base spare held n 28 cs = some x) : ∃ y : Value × Dd, cs = ddC y ∧ RdB w y.1 y.2.t := by
  obtain ⟨hl, hr⟩ := read_fields (k := 4) Try.underlying28 (by kernel_rfl) (by kernel_rfl) h
  match cs, hl with
  | [a, b, c, d], _ =>
    obtain ⟨m, y, hy⟩ := hr 0 (by simp) _ rfl
    obtain ⟨z0, h0, -⟩ := read_int Try.underlying25 hy
    obtain ⟨m, y, hy⟩ := hr 1 (by simp) _ rfl
    obtain ⟨t, ht⟩ := arg_bytes Try.underlying26 Try.underlying5 (by kernel_rfl) hy
    obtain ⟨m, y, hy⟩ := hr 2 (by simp) _ rfl
    obtain ⟨z2, h2, -⟩ := read_int Try.underlying3 hy
    obtain ⟨m, y, hy⟩ := hr 3 (by simp) _ rfl
    obtain ⟨z3, h3, -⟩ := read_int Try.underlying3 hy
    simp only [List.getElem_cons_zero, List.getElem_cons_succ] at h0 h2 h3 ht
    exact ⟨(b, ⟨z0, t, z2, z3⟩), by rw [h0, h2, h3]; rfl, ht⟩
theorem arg_ds {fuel : Nat} {v : Value} {x : DataW H × List MemPlace} (h : DataW.trod enc Try.prog w base spare held fuel 22 [v] = some x) : ∃ l : List Dd, Ds w v l := by
  obtain ⟨tv, h1, h2⟩ := arg_of (k := 4) ddC (fun y => RdB w y.1 y.2.t) (by decide) ddC_len Try.underlying22 (by kernel_rfl) (fun n cs x h => read_dd h) h
  exact ⟨tv.map (·.2), tv, rfl, h1, h2⟩
theorem arg_deed {b0 : Nat} {r : Reach} {v : Value} {d : DataW H} {ps : List MemPlace} (hv : Value.okWide Try.prog w r b0 28 v) (h : DataW.Trod enc Try.prog w base spare held 28 v d ps) : ∃ (dv : Value) (x : Dd), v = .agg #[.int .i64 x.kind, dv, .int .i64 x.rows, .int .i64 x.cols] ∧ RdB w dv x.t := by
  obtain ⟨cs, rfl, _⟩ := okWide_struct Try.underlying28 hv
  obtain ⟨fuel, hf⟩ := h
  obtain ⟨y, hy, hd⟩ := read_dd hf
  refine ⟨y.1, y.2, ?_, hd⟩
  have : cs.toList = _ := hy
  rw [show cs = cs.toList.toArray from by simp, this]; rfl
theorem arg_stream {b0 : Nat} {r : Reach} {v : Value} {d : DataW H} {ps : List MemPlace} (hv : Value.okWide Try.prog w r b0 24 v) (h : DataW.Trod enc Try.prog w base spare held 24 v d ps) : ∃ (b : Int) (sv : Value) (l : List Dd), v = .agg #[.int .i64 b, sv] ∧ Ds w sv l ∧ -9223372036854775808 ≤ b ∧ b ≤ 9223372036854775807 := by
  obtain ⟨cs, rfl, _⟩ := okWide_struct Try.underlying24 hv
  obtain ⟨fuel, hf0⟩ := h
  have hf : DataW.trod enc Try.prog w base spare held fuel 24 cs.toList = some (d, ps) := hf0
  obtain ⟨hl, hr⟩ := read_fields (k := 2) Try.underlying24 (by kernel_rfl) (by kernel_rfl) hf
  have hcs : cs = cs.toList.toArray := by simp
  obtain ⟨l, e⟩ : ∃ l, l = cs.toList := ⟨_, rfl⟩
  have hf' := hf
  rw [← e] at hcs
  have hl' : l.length = 2 := by rw [e]; exact hl
  match l, hl' with
  | [a, b], _ =>
    have hg : ∀ j (hj : j < 2), cs.toList[j]'(by rw [← e]; simpa using hj) = [a, b][j]'(by simpa using hj) := fun j hj => by simp [← e]
    obtain ⟨m, y, hy⟩ := hr 0 (by rw [← e]; simp) _ rfl
    rw [hg 0 (by omega)] at hy
    obtain ⟨z0, h0, hb1, hb2⟩ := read_int Try.underlying3 hy
    obtain ⟨m, y, hy⟩ := hr 1 (by rw [← e]; simp) _ rfl
    rw [hg 1 (by omega)] at hy
    obtain ⟨q, hq⟩ := arg_ds hy
    simp only [List.getElem_cons_zero, List.getElem_cons_succ] at h0 hq
    exact ⟨z0, b, q, by rw [hcs, h0], hq, hb1, hb2⟩
end
end Go.Proofs.Ytcbllkkbpjobpaa
namespace Go.Proofs.Ytcbllkkbpjobpaa
open Go.RowKit
variable {P : Program} {ops : Array Oper} {a : Act} {o : Oper}
theorem yieldsW_load_blk {S : World → Prop} (hw : Region.wanted o (yielded ops a.tmps) = true) (ty : TypeId) (x : Operand) (ho : o.op = .load ty x) (g : Nat) (hx : a.eval x = .pointer (some ⟨g, 0, none⟩)) (t : TypeId) (cs : Array Value) (hS : ∀ w, S w → Blk w g cs t) (d : TypeDesc)
    (hu : P.underlying ty = some d) (hd : d.isRow = true) (hi : (P.info? ty).map (·.size) = some cs.size) : YieldsIf P ops S o (.agg cs) a := by
  have h := yieldsIf_load_mid (P := P) (ops := ops) (S := S) (a := a) (op := o) hw ty x ho g 0 hx cs.toList d (fun w hw j v hv => (hS w hw).cell _ (by simpa using hv)) hu hd (by simpa using hi)
  simpa using h
theorem wp_val {w : World} {K : Act → World → Prop} {Q : Exit → Act → World → Prop} (v : Value) (hrun : (execOp a.eval o).run P w = .ok (.value v) w) (h : K (a.put o.dst v) w) : Oper.wp P o a w K Q := by
  unfold Oper.wp
  rw [hrun]
  exact h
end Go.Proofs.Ytcbllkkbpjobpaa
set_option linter.unusedVariables false
set_option linter.unusedSimpArgs false
namespace Go.Proofs.Ytcbllkkbpjobpaa
open Go.RowKit

theorem stZ_run (W : World) : (Instr.alloc 24 true (.tuple #[])).run Try.prog W = .ok (.pointer (some ⟨W.heap.size, 0, none⟩)) (W.alloc (.cells #[.int .i64 0, .slice none 0 0] 24)) := by kernel_rfl
set_option maxHeartbeats 8000000 in
set_option maxRecDepth 100000 in
theorem inputSteps_any {b b2 : Int} {sv sv2 vb : Value} {l l2 : List Dd} {D : List UInt8} {w : World} (h : Ds w sv l) (h2 : Ds w sv2 l2) (hb : RdB w vb D) :
    Calls Try.prog 4 #[.agg #[.int .i64 b, sv], .agg #[.int .i64 b2, sv2], vb] w fun e w' => e = .returned (.bool true) ∧ Fr0 w w' := by
  obtain ⟨A, c, rfl, -⟩ := h.form
  obtain ⟨A2, c2, rfl, -⟩ := h2.form
  obtain ⟨Ab, cb, rfl, -⟩ := hb.form
  have b63 := Rd.le63 hb
  obtain ⟨wa, hwa⟩ : ∃ W, W = (w.alloc (.cells #[.int .i64 b, .slice A l.length c] 24)).alloc (.cells #[.int .i64 b2, .slice A2 l2.length c2] 24) := ⟨_, rfl⟩
  have FX := Lib.hid (show Fr0 w wa by rw [hwa]; exact ((Fr0.refl w).alloc _).alloc _)
  have BX := Lib.hid (show Blk wa w.heap.size #[.int .i64 b, .slice A l.length c] 24 by rw [hwa]; exact (Blk.new w _ 24).alloc _)
  have BY := Lib.hid (show Blk wa (w.heap.size + 1) #[.int .i64 b2, .slice A2 l2.length c2] 24 by rw [hwa]; have := Blk.new (w.alloc (.cells #[.int .i64 b, .slice A l.length c] 24)) #[.int .i64 b2, .slice A2 l2.length c2] 24; simpa using this)
  have KN := Lib.hid known21_any
  have HG1 := Lib.hid (fun W (hf : Fr0 w W) => great_any (b := b) (h.fr0 hf))
  have HG2 := Lib.hid (fun W (hf : Fr0 w W) => great_any (b := b2) (h2.fr0 hf))
  have HRM1 := Lib.hid (fun W (hf : Fr0 w W) => rmay_any (b := b) (h.fr0 hf))
  have HRM2 := Lib.hid (fun W (hf : Fr0 w W) => rmay_any (b := b2) (h2.fr0 hf))
  have HCO10 := Lib.hid (fun W (hf : Fr0 w W) (hg : greatS l = false) => rcopy_any (b := b) (h.fr0 hf) (by have := (greatS_no hg).1; omega) (fun x hx => by have := (greatS_no hg).2 x hx; omega))
  have HCO20 := Lib.hid (fun W (hf : Fr0 w W) (hg : greatS l2 = false) => rcopy_any (b := b2) (h2.fr0 hf) (by have := (greatS_no hg).1; omega) (fun x hx => by have := (greatS_no hg).2 x hx; omega))
  have HDF := Lib.hid (fun W B c' B2 c2 (hd : Ds W (.slice B l.length c') l) (hd2 : Ds W (.slice B2 l2.length c2) l2) => diff_any (b1 := b) (b2 := b2) hd hd2)
  have HAP := Lib.hid (fun W B c' (hn : D.length ≤ 100000) (hf : Fr0 w W) (hd : Ds W (.slice B l.length c') l) => apply_any (b := b) hd (hb.fr0 hf) hn)
  have HRA0 := Lib.hid (fun W (hs : mayS b l = true) (hn : D.length ≤ 100000) (hf : Fr0 w W) => rapply_any (b := b) hs (h.fr0 hf) (hb.fr0 hf) hn)
  have HS1 := Lib.hid (fun W B c' (hf : Fr0 w W) (hd : Ds W (.slice B l.length c') l) => show Calls Try.prog 16 #[.agg #[.int .i64 b, .slice B l.length c'], .agg #[.int .i64 b, .slice A l.length c]] W fun e w' => e = .returned (.bool true) ∧ Fr0 W w' from by
    have := rsame_any (b := b) (b2 := b) hd (h.fr0 hf)
    rwa [decide_eq_true ⟨rfl, rfl⟩] at this)
  have HS2 := Lib.hid (fun W B c' (hf : Fr0 w W) (hd : Ds W (.slice B l2.length c') l2) => show Calls Try.prog 16 #[.agg #[.int .i64 b2, .slice B l2.length c'], .agg #[.int .i64 b2, .slice A2 l2.length c2]] W fun e w' => e = .returned (.bool true) ∧ Fr0 W w' from by
    have := rsame_any (b := b2) (b2 := b2) hd (h2.fr0 hf)
    rwa [decide_eq_true ⟨rfl, rfl⟩] at this)
  have HRS0 := Lib.hid (fun W (hs : mayS b2 l2 = true) (hf : Fr0 w W) => (rsince_any (b := b2) (m := b + l.length) (h2.fr0 hf) hs).mono (fun e w' hh => show ∃ B c', e = .returned (.slice B (sinceL b2 l2 (b + l.length)).length c') ∧ Ds w' (.slice B (sinceL b2 l2 (b + l.length)).length c') (sinceL b2 l2 (b + l.length)) ∧ Fr0 W w' from by
    obtain ⟨B, c', he, hd, hf2⟩ := hh
    obtain ⟨tv, e1, e2, e3⟩ := hd
    exact ⟨B, c', he, ⟨tv, e1, by rw [show tv.length = (sinceL b2 l2 (b + l.length)).length by rw [← e1, List.length_map]] at e2 ⊢; exact Rd.of_own e2, fun y hy => (e3 y hy).fr0 hf2⟩, hf2⟩))
  have HRF0 := Lib.hid (fun W B c' (hs : mayS b2 l2 = true) (hd : Ds W (.slice B (sinceL b2 l2 (b + l.length)).length c') (sinceL b2 l2 (b + l.length))) => rforms_any hd (sinceL_may hs) (sinceL_len hs))
  have HP := Lib.hid (show diffP b l b2 l2 = if mayS b l = true ∧ mayS b2 l2 = true ∧ ¬ cntS b l < b2 ∧ ¬ cntS b2 l2 < cntS b l then (formsD (sinceL b2 l2 (cntS b l)), 0) else ([], 2) from rfl)
  have HC1 := Lib.hid (fun (hs : mayS b l = true) => show cntS b l = b + l.length from by unfold cntS; rw [if_pos hs])
  have HC2 := Lib.hid (fun (hs : mayS b2 l2 = true) => show cntS b2 l2 = b2 + l2.length from by unfold cntS; rw [if_pos hs])
  have BN1 := Lib.hid (fun hs => mayS_bnd (b := b) (l := l) hs)
  have BN2 := Lib.hid (fun hs => mayS_bnd (b := b2) (l := l2) hs)
  have HPA := Lib.hid (fun (hs : mayS b l = false) => show applyP b l D = (0, [], 2) from by unfold applyP; rw [if_neg (by simp [hs])])
  obtain ⟨n, hn⟩ : ∃ n, n = l.length := ⟨_, rfl⟩
  obtain ⟨n2, hn2⟩ : ∃ n, n = l2.length := ⟨_, rfl⟩
  obtain ⟨n3, hn3⟩ : ∃ n, n = D.length := ⟨_, rfl⟩
  obtain ⟨g1, hg1⟩ : ∃ n, n = greatS l := ⟨_, rfl⟩
  obtain ⟨g2, hg2⟩ : ∃ n, n = greatS l2 := ⟨_, rfl⟩
  obtain ⟨m1, hm1⟩ : ∃ n, n = mayS b l := ⟨_, rfl⟩
  obtain ⟨m2, hm2⟩ : ∃ n, n = mayS b2 l2 := ⟨_, rfl⟩
  obtain ⟨k1, hk1⟩ : ∃ n, n = cntS b l := ⟨_, rfl⟩
  obtain ⟨k2, hk2⟩ : ∃ n, n = cntS b2 l2 := ⟨_, rfl⟩
  obtain ⟨PD, hPD⟩ : ∃ n, n = diffP b l b2 l2 := ⟨_, rfl⟩
  obtain ⟨PA, hPA⟩ : ∃ n, n = applyP b l D := ⟨_, rfl⟩
  rw [← hPD] at HDF HP
  rw [← hPA] at HAP HRA0 HPA
  rw [← hk1] at HP HC1
  rw [← hk2] at HP HC2
  rw [← hn] at BX HG1 HRM1 HCO10 HDF HAP HRA0 HS1 HRS0 HRF0 HC1 BN1 hwa ⊢
  rw [← hn2] at BY HG2 HRM2 HCO20 HDF HS2 HRS0 HC2 BN2 hwa ⊢
  rw [← hn3] at HAP HRA0 b63 ⊢
  rw [← hg1] at HG1 HCO10
  rw [← hg2] at HG2 HCO20
  rw [← hm1] at HRM1 HP HC1 BN1 HPA HRA0
  rw [← hm2] at HRM2 HP HC2 BN2 HRS0 HRF0
  obtain ⟨LS, hLS⟩ : ∃ q, q = sinceL b2 l2 (b + n) := ⟨_, rfl⟩
  rw [← hLS] at HRS0 HRF0
  have HLS := Lib.hid hLS
  clear hn hn2 hn3 hg1 hg2 hm1 hm2 hk1 hk2 hPD hPA hLS h h2 hb
  obtain ⟨fD, eD⟩ := PD
  obtain ⟨bz, lz, ez⟩ := PA
  subst hwa
  cases g1
  case true =>
    go_enter Try.func4, Try.ntmps4
    go_wp2_with (first
      | (go_at_call 8; refine (KN.out _).mono ?_; rintro e w3 ⟨rfl, hf⟩; have F3 := Lib.hid (Fr0.trans FX.out hf); have x0 := ((BX.out).fr0 hf).cell 0 rfl; have x1 := ((BX.out).fr0 hf).cell 1 rfl; clear hf)
      | (go_at_call 9; refine (HG1.out _ F3.out).mono ?_; rintro e w4 ⟨rfl, hf⟩; have F4 := Lib.hid (Fr0.trans F3.out hf); clear hf))
    go_ret
    exact ⟨rfl, F4.out⟩
  cases g2
  case true =>
    go_enter Try.func4, Try.ntmps4
    go_wp2_with (first
      | (go_at_call 8; refine (KN.out _).mono ?_; rintro e w3 ⟨rfl, hf⟩; have F3 := Lib.hid (Fr0.trans FX.out hf); have X3 := Lib.hid ((BX.out).fr0 hf); have Y3 := Lib.hid ((BY.out).fr0 hf); have x0 := (X3.out).cell 0 rfl; have x1 := (X3.out).cell 1 rfl; clear hf)
      | (have _q := F4; go_at_call 9; refine (HG2.out _ F4.out).mono ?_; rintro e w5 ⟨rfl, hf⟩; have F5 := Lib.hid (Fr0.trans F4.out hf); clear hf)
      | (go_at_call 9; refine (HG1.out _ F3.out).mono ?_; rintro e w4 ⟨rfl, hf⟩; have F4 := Lib.hid (Fr0.trans F3.out hf); have Y4 := Lib.hid ((Y3.out).fr0 hf); have y0 := (Y4.out).cell 0 rfl; have y1 := (Y4.out).cell 1 rfl; clear hf))
    go_ret
    exact ⟨rfl, F5.out⟩
  by_cases h3 : 3000 < n3
  · have d1 : decide (3000 < (n3 : Int)) = true := by simp; omega
    have d2 : decide (3000 < n3) = true := by simpa using h3
    clear h3
    go_enter Try.func4, Try.ntmps4
    go_wp2_with (first
      | (go_at_call 8; refine (KN.out _).mono ?_; rintro e w3 ⟨rfl, hf⟩; have F3 := Lib.hid (Fr0.trans FX.out hf); have X3 := Lib.hid ((BX.out).fr0 hf); have Y3 := Lib.hid ((BY.out).fr0 hf); have x0 := (X3.out).cell 0 rfl; have x1 := (X3.out).cell 1 rfl; clear hf)
      | (have _q := F4; go_at_call 9; refine (HG2.out _ F4.out).mono ?_; rintro e w5 ⟨rfl, hf⟩; have F5 := Lib.hid (Fr0.trans F4.out hf); clear hf)
      | (go_at_call 9; refine (HG1.out _ F3.out).mono ?_; rintro e w4 ⟨rfl, hf⟩; have F4 := Lib.hid (Fr0.trans F3.out hf); have Y4 := Lib.hid ((Y3.out).fr0 hf); have y0 := (Y4.out).cell 0 rfl; have y1 := (Y4.out).cell 1 rfl; clear hf))
    go_ret
    exact ⟨rfl, F5.out⟩
  have d1 : decide (3000 < (n3 : Int)) = false := by simp; omega
  have d2 : decide (3000 < n3) = false := by simpa using h3
  have HN3 := Lib.hid (show n3 ≤ 100000 by omega)
  have HCO11 := Lib.hid (fun W hf => HCO10.out W hf rfl)
  have HCO21 := Lib.hid (fun W hf => HCO20.out W hf rfl)
  clear HCO10 HCO20 h3
  go_enter Try.func4, Try.ntmps4
  go_upto_region 5 with (first
    | (go_at_call 8; refine (KN.out _).mono ?_; rintro e w3 ⟨rfl, hf⟩; have F3 := Lib.hid (Fr0.trans FX.out hf); have X3 := Lib.hid ((BX.out).fr0 hf); have Y3 := Lib.hid ((BY.out).fr0 hf); have x0 := (X3.out).cell 0 rfl; have x1 := (X3.out).cell 1 rfl; clear hf)
    | (have _q := F4; go_at_call 9; refine (HG2.out _ F4.out).mono ?_; rintro e w6 ⟨rfl, hf⟩; have F := Lib.hid (Fr0.drew (Fr0.trans F4.out hf)); have X := Lib.hid (Blk.drew ((X4.out).fr0 hf)); have Y := Lib.hid (Blk.drew ((Y4.out).fr0 hf)); clear hf)
    | (go_at_call 9; refine (HG1.out _ F3.out).mono ?_; rintro e w4 ⟨rfl, hf⟩; have F4 := Lib.hid (Fr0.trans F3.out hf); have X4 := Lib.hid ((X3.out).fr0 hf); have Y4 := Lib.hid ((Y3.out).fr0 hf); have y0 := (Y4.out).cell 0 rfl; have y1 := (Y4.out).cell 1 rfl; clear hf))
  have HCO1 := Lib.hid (fun W (hf : Fr0 w6.drew W) => HCO11.out W (Fr0.trans F.out hf))
  have HCO2 := Lib.hid (fun W (hf : Fr0 w6.drew W) => HCO21.out W (Fr0.trans F.out hf))
  clear HCO11 HCO21 F3 F4 X3 X4 Y3 Y4 x0 x1 y0 y1 KN HG1 HG2
  go_cut [7, 8] (fun s7 s8 wx => ∃ (g7 g8 : Nat) (B1 : Option Addr) (c1 : Nat) (B2 : Option Addr) (c2' : Nat), s7 = .pointer (some ⟨g7, 0, none⟩) ∧ s8 = .pointer (some ⟨g8, 0, none⟩) ∧ Fr0 w6.drew wx ∧ Blk wx g7 #[.int .i64 b, .slice B1 n c1] 24 ∧ Blk wx g8 #[.int .i64 b2, .slice B2 n2 c2'] 24 ∧ DsG (SlO w.heap.size) w.heap.size wx (.slice B1 n c1) l ∧ DsG (SlO w.heap.size) w.heap.size wx (.slice B2 n2 c2') l2)
  case first =>
    refine wp_region_held_drew (S := (fun W => Fr0 w6.drew W)) (by kernel_rfl) (Fr0.refl _) (fun hHeld => ?_)
    generalize w6.drew = wq at *
    have U0 := Lib.hid (Fr0.refl wq)
    have _hI : True := trivial
    clear _hI
    refine takeH (i := 0) rfl (by kernel_rfl) (by kernel_rfl) (by kernel_rfl) (fun _ _ _ h => h) (yieldsW_load_blk rfl 24 _ rfl w.heap.size rfl 24 #[.int .i64 b, .slice A n c] (fun W hW => (X.out).fr0 hW) _ Try.underlying24 rfl (by kernel_rfl)) (Fr0.refl wq) ?_
    try simp only [Act.put, List.setIfInBounds_toArray, List.set_cons_zero, List.set_cons_succ]
    have _hI : True := trivial
    clear _hI
    refine takeH (i := 2) rfl (by kernel_rfl) (by kernel_rfl) (by kernel_rfl) (fun _ _ _ h => h) (yieldsW_load_blk rfl 24 _ rfl (w.heap.size + 1) rfl 24 #[.int .i64 b2, .slice A2 n2 c2] (fun W hW => (Y.out).fr0 hW) _ Try.underlying24 rfl (by kernel_rfl)) (Fr0.refl wq) ?_
    try simp only [Act.put, List.setIfInBounds_toArray, List.set_cons_zero, List.set_cons_succ]
    have _hI : True := trivial
    clear _hI
    refine wpAnyH_ready (rs := [1, 4, 5]) (by kernel_rfl) (by simp) (consG rfl rfl (fun K hK => ?_) (consG rfl rfl (fun K hK => ?_) (consG rfl rfl (fun K hK => ?_) AllReadyH.nil)))
    ·
      have _hI : True := trivial
      clear _hI
      go_simp
      refine (HCO1.out _ U0.out).mono ?_
      rintro e Wn1 ⟨B1, c1, rfl, hd, hf⟩
      have D1 := Lib.hid (hd.mono (b2 := w.heap.size) (T2 := SlO w.heap.size) (Nat.le_trans (F.out).size (U0.out).size) (fun v t h => h.low (Nat.le_trans (F.out).size (U0.out).size)))
      have U1 := Lib.hid (Fr0.trans U0.out hf)
      clear hf hd
      refine hK.out _ _ U1.out ?_
      clear hK
      try simp only [Act.put, List.setIfInBounds_toArray, List.set_cons_zero, List.set_cons_succ]
      have _hI : True := trivial
      clear _hI
      refine wpAnyH_ready (rs := [3, 4, 5]) (by kernel_rfl) (by simp) (consG rfl rfl (fun K hK => ?_) (consG rfl rfl (fun K hK => ?_) (consG rfl rfl (fun K hK => ?_) AllReadyH.nil)))
      ·
        have _hI : True := trivial
        clear _hI
        go_simp
        refine (HCO2.out _ U1.out).mono ?_
        rintro e Wn2 ⟨B2, c2', rfl, hd, hf⟩
        replace D1 := Lib.hid ((D1.out).fr0 hf (fun v t h => h.fr0 hf))
        have D2 := Lib.hid (hd.mono (b2 := w.heap.size) (T2 := SlO w.heap.size) (Nat.le_trans (F.out).size (U1.out).size) (fun v t h => h.low (Nat.le_trans (F.out).size (U1.out).size)))
        have U2 := Lib.hid (Fr0.trans U1.out hf)
        clear hf hd
        refine hK.out _ _ U2.out ?_
        clear hK
        try simp only [Act.put, List.setIfInBounds_toArray, List.set_cons_zero, List.set_cons_succ]
        have _hI : True := trivial
        clear _hI
        refine wpAnyH_ready (rs := [4, 5]) (by kernel_rfl) (by simp) (consG rfl rfl (fun K hK => ?_) (consG rfl rfl (fun K hK => ?_) AllReadyH.nil))
        ·
          have _hI : True := trivial
          clear _hI
          refine wp_alloc_blk 24 rfl #[.int .i64 0, .slice none 0 0] (fun W => stZ_run W) ?_
          intro g7 Wn3 hB hf hg
          have Lg7 := Lib.hid (show wq.heap.size ≤ g7 from Nat.le_trans (U2.out).size hg)
          replace D1 := Lib.hid ((D1.out).fr0 hf (fun v t h => h.fr0 hf))
          replace D2 := Lib.hid ((D2.out).fr0 hf (fun v t h => h.fr0 hf))
          have G7 := Lib.hid hB
          have U3 := Lib.hid (Fr0.trans U2.out hf)
          clear hB hf hg
          refine hK.out _ _ U3.out ?_
          clear hK
          try simp only [Act.put, List.setIfInBounds_toArray, List.set_cons_zero, List.set_cons_succ]
          have _hI : True := trivial
          clear _hI
          refine wpAnyH_ready (rs := [5]) (by kernel_rfl) (by simp) (consG rfl rfl (fun K hK => ?_) AllReadyH.nil)
          have _hI : True := trivial
          clear _hI
          refine wp_alloc_blk 24 rfl #[.int .i64 0, .slice none 0 0] (fun W => stZ_run W) ?_
          intro g8 Wn4 hB hf hg
          have NE := Lib.hid (show g7 ≠ g8 from by have := (G7.out).lt; omega)
          have Lg8 := Lib.hid (show wq.heap.size ≤ g8 from Nat.le_trans (U3.out).size hg)
          replace D1 := Lib.hid ((D1.out).fr0 hf (fun v t h => h.fr0 hf))
          replace D2 := Lib.hid ((D2.out).fr0 hf (fun v t h => h.fr0 hf))
          replace G7 := Lib.hid ((G7.out).fr0 hf)
          have G8 := Lib.hid hB
          have U4 := Lib.hid (Fr0.trans U3.out hf)
          clear hB hf hg
          refine hK.out _ _ U4.out ?_
          clear hK
          try simp only [Act.put, List.setIfInBounds_toArray, List.set_cons_zero, List.set_cons_succ]
          have _hI : True := trivial
          clear _hI
          refine wpAnyH_ready (rs := [6]) (by kernel_rfl) (by simp) (consG rfl rfl (fun K hK => ?_) AllReadyH.nil)
          have _hI : True := trivial
          clear _hI
          refine wp_store_blk ?qty5 ?qex5 ?qey5 ?qho5 ?qgg5 ?qcc5 ?qhx5 ?qhy5 ?qtt5 ?qold5 ?qhb5 ?qhi5 ?qhd5 ?qh15 ?qre5
          case qcc5 => exact #[.int .i64 b, .slice B1 n c1]
          case qty5 => exact 24
          case qtt5 => exact 24
          case qgg5 => exact g7
          case qold5 => exact #[.int .i64 0, .slice none 0 0]
          case qex5 => exact (.tmp 7)
          case qey5 => exact (.tmp 29)
          case qho5 => rfl
          case qhb5 => exact G7.out
          case qhi5 => kernel_rfl
          case qhd5 => rfl
          case qh15 => first | rfl | (simp [Value.oneCell'])
          case qhx5 => rfl
          case qhy5 => rfl
          intro Wn5 hB hf
          replace D1 := Lib.hid ((D1.out).frS hf G7.out (by decide) (by decide))
          replace D2 := Lib.hid ((D2.out).frS hf G7.out (by decide) (by decide))
          replace G8 := Lib.hid ((G8.out).fr1 hf (NE.out).symm)
          replace G7 := Lib.hid hB
          have U5 := Lib.hid (Fr0.new U4.out hf Lg7.out)
          clear hB hf
          refine hK.out _ _ U5.out ?_
          clear hK
          try simp only [Act.put, List.setIfInBounds_toArray, List.set_cons_zero, List.set_cons_succ]
          have _hI : True := trivial
          clear _hI
          refine wpAnyH_ready (rs := [7]) (by kernel_rfl) (by simp) (consG rfl rfl (fun K hK => ?_) AllReadyH.nil)
          have _hI : True := trivial
          clear _hI
          refine wp_store_blk ?qty6 ?qex6 ?qey6 ?qho6 ?qgg6 ?qcc6 ?qhx6 ?qhy6 ?qtt6 ?qold6 ?qhb6 ?qhi6 ?qhd6 ?qh16 ?qre6
          case qcc6 => exact #[.int .i64 b2, .slice B2 n2 c2']
          case qty6 => exact 24
          case qtt6 => exact 24
          case qgg6 => exact g8
          case qold6 => exact #[.int .i64 0, .slice none 0 0]
          case qex6 => exact (.tmp 8)
          case qey6 => exact (.tmp 31)
          case qho6 => rfl
          case qhb6 => exact G8.out
          case qhi6 => kernel_rfl
          case qhd6 => rfl
          case qh16 => first | rfl | (simp [Value.oneCell'])
          case qhx6 => rfl
          case qhy6 => rfl
          intro Wn6 hB hf
          replace D1 := Lib.hid ((D1.out).frS hf G8.out (by decide) (by decide))
          replace D2 := Lib.hid ((D2.out).frS hf G8.out (by decide) (by decide))
          replace G7 := Lib.hid ((G7.out).fr1 hf NE.out)
          replace G8 := Lib.hid hB
          have U6 := Lib.hid (Fr0.new U5.out hf Lg8.out)
          clear hB hf
          refine hK.out _ _ U6.out ?_
          clear hK
          try simp only [Act.put, List.setIfInBounds_toArray, List.set_cons_zero, List.set_cons_succ]
          refine wpAnyH_done (by kernel_rfl) ?_ _
          go_wp2_with fail
          go_meet
          exact ⟨g7, g8, B1, c1, B2, c2', rfl, rfl, U6.out, G7.out, G8.out, D1.out, D2.out⟩
        ·
          have _hI : True := trivial
          clear _hI
          refine wp_alloc_blk 24 rfl #[.int .i64 0, .slice none 0 0] (fun W => stZ_run W) ?_
          intro g8 Wn7 hB hf hg
          have Lg8 := Lib.hid (show wq.heap.size ≤ g8 from Nat.le_trans (U2.out).size hg)
          replace D1 := Lib.hid ((D1.out).fr0 hf (fun v t h => h.fr0 hf))
          replace D2 := Lib.hid ((D2.out).fr0 hf (fun v t h => h.fr0 hf))
          have G8 := Lib.hid hB
          have U7 := Lib.hid (Fr0.trans U2.out hf)
          clear hB hf hg
          refine hK.out _ _ U7.out ?_
          clear hK
          try simp only [Act.put, List.setIfInBounds_toArray, List.set_cons_zero, List.set_cons_succ]
          have _hI : True := trivial
          clear _hI
          refine wpAnyH_ready (rs := [4]) (by kernel_rfl) (by simp) (consG rfl rfl (fun K hK => ?_) AllReadyH.nil)
          have _hI : True := trivial
          clear _hI
          refine wp_alloc_blk 24 rfl #[.int .i64 0, .slice none 0 0] (fun W => stZ_run W) ?_
          intro g7 Wn8 hB hf hg
          have NE := Lib.hid (show g7 ≠ g8 from by have := (G8.out).lt; omega)
          have Lg7 := Lib.hid (show wq.heap.size ≤ g7 from Nat.le_trans (U7.out).size hg)
          replace D1 := Lib.hid ((D1.out).fr0 hf (fun v t h => h.fr0 hf))
          replace D2 := Lib.hid ((D2.out).fr0 hf (fun v t h => h.fr0 hf))
          replace G8 := Lib.hid ((G8.out).fr0 hf)
          have G7 := Lib.hid hB
          have U8 := Lib.hid (Fr0.trans U7.out hf)
          clear hB hf hg
          refine hK.out _ _ U8.out ?_
          clear hK
          try simp only [Act.put, List.setIfInBounds_toArray, List.set_cons_zero, List.set_cons_succ]
          have _hI : True := trivial
          clear _hI
          refine wpAnyH_ready (rs := [6]) (by kernel_rfl) (by simp) (consG rfl rfl (fun K hK => ?_) AllReadyH.nil)
          have _hI : True := trivial
          clear _hI
          refine wp_store_blk ?qty9 ?qex9 ?qey9 ?qho9 ?qgg9 ?qcc9 ?qhx9 ?qhy9 ?qtt9 ?qold9 ?qhb9 ?qhi9 ?qhd9 ?qh19 ?qre9
          case qcc9 => exact #[.int .i64 b, .slice B1 n c1]
          case qty9 => exact 24
          case qtt9 => exact 24
          case qgg9 => exact g7
          case qold9 => exact #[.int .i64 0, .slice none 0 0]
          case qex9 => exact (.tmp 7)
          case qey9 => exact (.tmp 29)
          case qho9 => rfl
          case qhb9 => exact G7.out
          case qhi9 => kernel_rfl
          case qhd9 => rfl
          case qh19 => first | rfl | (simp [Value.oneCell'])
          case qhx9 => rfl
          case qhy9 => rfl
          intro Wn9 hB hf
          replace D1 := Lib.hid ((D1.out).frS hf G7.out (by decide) (by decide))
          replace D2 := Lib.hid ((D2.out).frS hf G7.out (by decide) (by decide))
          replace G8 := Lib.hid ((G8.out).fr1 hf (NE.out).symm)
          replace G7 := Lib.hid hB
          have U9 := Lib.hid (Fr0.new U8.out hf Lg7.out)
          clear hB hf
          refine hK.out _ _ U9.out ?_
          clear hK
          try simp only [Act.put, List.setIfInBounds_toArray, List.set_cons_zero, List.set_cons_succ]
          have _hI : True := trivial
          clear _hI
          refine wpAnyH_ready (rs := [7]) (by kernel_rfl) (by simp) (consG rfl rfl (fun K hK => ?_) AllReadyH.nil)
          have _hI : True := trivial
          clear _hI
          refine wp_store_blk ?qty10 ?qex10 ?qey10 ?qho10 ?qgg10 ?qcc10 ?qhx10 ?qhy10 ?qtt10 ?qold10 ?qhb10 ?qhi10 ?qhd10 ?qh110 ?qre10
          case qcc10 => exact #[.int .i64 b2, .slice B2 n2 c2']
          case qty10 => exact 24
          case qtt10 => exact 24
          case qgg10 => exact g8
          case qold10 => exact #[.int .i64 0, .slice none 0 0]
          case qex10 => exact (.tmp 8)
          case qey10 => exact (.tmp 31)
          case qho10 => rfl
          case qhb10 => exact G8.out
          case qhi10 => kernel_rfl
          case qhd10 => rfl
          case qh110 => first | rfl | (simp [Value.oneCell'])
          case qhx10 => rfl
          case qhy10 => rfl
          intro Wn10 hB hf
          replace D1 := Lib.hid ((D1.out).frS hf G8.out (by decide) (by decide))
          replace D2 := Lib.hid ((D2.out).frS hf G8.out (by decide) (by decide))
          replace G7 := Lib.hid ((G7.out).fr1 hf NE.out)
          replace G8 := Lib.hid hB
          have U10 := Lib.hid (Fr0.new U9.out hf Lg8.out)
          clear hB hf
          refine hK.out _ _ U10.out ?_
          clear hK
          try simp only [Act.put, List.setIfInBounds_toArray, List.set_cons_zero, List.set_cons_succ]
          refine wpAnyH_done (by kernel_rfl) ?_ _
          go_wp2_with fail
          go_meet
          exact ⟨g7, g8, B1, c1, B2, c2', rfl, rfl, U10.out, G7.out, G8.out, D1.out, D2.out⟩
      ·
        have _hI : True := trivial
        clear _hI
        refine wp_alloc_blk 24 rfl #[.int .i64 0, .slice none 0 0] (fun W => stZ_run W) ?_
        intro g7 Wn11 hB hf hg
        have Lg7 := Lib.hid (show wq.heap.size ≤ g7 from Nat.le_trans (U1.out).size hg)
        replace D1 := Lib.hid ((D1.out).fr0 hf (fun v t h => h.fr0 hf))
        have G7 := Lib.hid hB
        have U11 := Lib.hid (Fr0.trans U1.out hf)
        clear hB hf hg
        refine hK.out _ _ U11.out ?_
        clear hK
        try simp only [Act.put, List.setIfInBounds_toArray, List.set_cons_zero, List.set_cons_succ]
        have _hI : True := trivial
        clear _hI
        refine wpAnyH_ready (rs := [3, 5]) (by kernel_rfl) (by simp) (consG rfl rfl (fun K hK => ?_) (consG rfl rfl (fun K hK => ?_) AllReadyH.nil))
        ·
          have _hI : True := trivial
          clear _hI
          go_simp
          refine (HCO2.out _ U11.out).mono ?_
          rintro e Wn12 ⟨B2, c2', rfl, hd, hf⟩
          replace D1 := Lib.hid ((D1.out).fr0 hf (fun v t h => h.fr0 hf))
          replace G7 := Lib.hid ((G7.out).fr0 hf)
          have D2 := Lib.hid (hd.mono (b2 := w.heap.size) (T2 := SlO w.heap.size) (Nat.le_trans (F.out).size (U11.out).size) (fun v t h => h.low (Nat.le_trans (F.out).size (U11.out).size)))
          have U12 := Lib.hid (Fr0.trans U11.out hf)
          clear hf hd
          refine hK.out _ _ U12.out ?_
          clear hK
          try simp only [Act.put, List.setIfInBounds_toArray, List.set_cons_zero, List.set_cons_succ]
          have _hI : True := trivial
          clear _hI
          refine wpAnyH_ready (rs := [5]) (by kernel_rfl) (by simp) (consG rfl rfl (fun K hK => ?_) AllReadyH.nil)
          have _hI : True := trivial
          clear _hI
          refine wp_alloc_blk 24 rfl #[.int .i64 0, .slice none 0 0] (fun W => stZ_run W) ?_
          intro g8 Wn13 hB hf hg
          have NE := Lib.hid (show g7 ≠ g8 from by have := (G7.out).lt; omega)
          have Lg8 := Lib.hid (show wq.heap.size ≤ g8 from Nat.le_trans (U12.out).size hg)
          replace D1 := Lib.hid ((D1.out).fr0 hf (fun v t h => h.fr0 hf))
          replace G7 := Lib.hid ((G7.out).fr0 hf)
          replace D2 := Lib.hid ((D2.out).fr0 hf (fun v t h => h.fr0 hf))
          have G8 := Lib.hid hB
          have U13 := Lib.hid (Fr0.trans U12.out hf)
          clear hB hf hg
          refine hK.out _ _ U13.out ?_
          clear hK
          try simp only [Act.put, List.setIfInBounds_toArray, List.set_cons_zero, List.set_cons_succ]
          have _hI : True := trivial
          clear _hI
          refine wpAnyH_ready (rs := [6]) (by kernel_rfl) (by simp) (consG rfl rfl (fun K hK => ?_) AllReadyH.nil)
          have _hI : True := trivial
          clear _hI
          refine wp_store_blk ?qty14 ?qex14 ?qey14 ?qho14 ?qgg14 ?qcc14 ?qhx14 ?qhy14 ?qtt14 ?qold14 ?qhb14 ?qhi14 ?qhd14 ?qh114 ?qre14
          case qcc14 => exact #[.int .i64 b, .slice B1 n c1]
          case qty14 => exact 24
          case qtt14 => exact 24
          case qgg14 => exact g7
          case qold14 => exact #[.int .i64 0, .slice none 0 0]
          case qex14 => exact (.tmp 7)
          case qey14 => exact (.tmp 29)
          case qho14 => rfl
          case qhb14 => exact G7.out
          case qhi14 => kernel_rfl
          case qhd14 => rfl
          case qh114 => first | rfl | (simp [Value.oneCell'])
          case qhx14 => rfl
          case qhy14 => rfl
          intro Wn14 hB hf
          replace D1 := Lib.hid ((D1.out).frS hf G7.out (by decide) (by decide))
          replace D2 := Lib.hid ((D2.out).frS hf G7.out (by decide) (by decide))
          replace G8 := Lib.hid ((G8.out).fr1 hf (NE.out).symm)
          replace G7 := Lib.hid hB
          have U14 := Lib.hid (Fr0.new U13.out hf Lg7.out)
          clear hB hf
          refine hK.out _ _ U14.out ?_
          clear hK
          try simp only [Act.put, List.setIfInBounds_toArray, List.set_cons_zero, List.set_cons_succ]
          have _hI : True := trivial
          clear _hI
          refine wpAnyH_ready (rs := [7]) (by kernel_rfl) (by simp) (consG rfl rfl (fun K hK => ?_) AllReadyH.nil)
          have _hI : True := trivial
          clear _hI
          refine wp_store_blk ?qty15 ?qex15 ?qey15 ?qho15 ?qgg15 ?qcc15 ?qhx15 ?qhy15 ?qtt15 ?qold15 ?qhb15 ?qhi15 ?qhd15 ?qh115 ?qre15
          case qcc15 => exact #[.int .i64 b2, .slice B2 n2 c2']
          case qty15 => exact 24
          case qtt15 => exact 24
          case qgg15 => exact g8
          case qold15 => exact #[.int .i64 0, .slice none 0 0]
          case qex15 => exact (.tmp 8)
          case qey15 => exact (.tmp 31)
          case qho15 => rfl
          case qhb15 => exact G8.out
          case qhi15 => kernel_rfl
          case qhd15 => rfl
          case qh115 => first | rfl | (simp [Value.oneCell'])
          case qhx15 => rfl
          case qhy15 => rfl
          intro Wn15 hB hf
          replace D1 := Lib.hid ((D1.out).frS hf G8.out (by decide) (by decide))
          replace D2 := Lib.hid ((D2.out).frS hf G8.out (by decide) (by decide))
          replace G7 := Lib.hid ((G7.out).fr1 hf NE.out)
          replace G8 := Lib.hid hB
          have U15 := Lib.hid (Fr0.new U14.out hf Lg8.out)
          clear hB hf
          refine hK.out _ _ U15.out ?_
          clear hK
          try simp only [Act.put, List.setIfInBounds_toArray, List.set_cons_zero, List.set_cons_succ]
          refine wpAnyH_done (by kernel_rfl) ?_ _
          go_wp2_with fail
          go_meet
          exact ⟨g7, g8, B1, c1, B2, c2', rfl, rfl, U15.out, G7.out, G8.out, D1.out, D2.out⟩
        ·
          have _hI : True := trivial
          clear _hI
          refine wp_alloc_blk 24 rfl #[.int .i64 0, .slice none 0 0] (fun W => stZ_run W) ?_
          intro g8 Wn16 hB hf hg
          have NE := Lib.hid (show g7 ≠ g8 from by have := (G7.out).lt; omega)
          have Lg8 := Lib.hid (show wq.heap.size ≤ g8 from Nat.le_trans (U11.out).size hg)
          replace D1 := Lib.hid ((D1.out).fr0 hf (fun v t h => h.fr0 hf))
          replace G7 := Lib.hid ((G7.out).fr0 hf)
          have G8 := Lib.hid hB
          have U16 := Lib.hid (Fr0.trans U11.out hf)
          clear hB hf hg
          refine hK.out _ _ U16.out ?_
          clear hK
          try simp only [Act.put, List.setIfInBounds_toArray, List.set_cons_zero, List.set_cons_succ]
          have _hI : True := trivial
          clear _hI
          refine wpAnyH_ready (rs := [3]) (by kernel_rfl) (by simp) (consG rfl rfl (fun K hK => ?_) AllReadyH.nil)
          have _hI : True := trivial
          clear _hI
          go_simp
          refine (HCO2.out _ U16.out).mono ?_
          rintro e Wn17 ⟨B2, c2', rfl, hd, hf⟩
          replace D1 := Lib.hid ((D1.out).fr0 hf (fun v t h => h.fr0 hf))
          replace G7 := Lib.hid ((G7.out).fr0 hf)
          replace G8 := Lib.hid ((G8.out).fr0 hf)
          have D2 := Lib.hid (hd.mono (b2 := w.heap.size) (T2 := SlO w.heap.size) (Nat.le_trans (F.out).size (U16.out).size) (fun v t h => h.low (Nat.le_trans (F.out).size (U16.out).size)))
          have U17 := Lib.hid (Fr0.trans U16.out hf)
          clear hf hd
          refine hK.out _ _ U17.out ?_
          clear hK
          try simp only [Act.put, List.setIfInBounds_toArray, List.set_cons_zero, List.set_cons_succ]
          have _hI : True := trivial
          clear _hI
          refine wpAnyH_ready (rs := [6]) (by kernel_rfl) (by simp) (consG rfl rfl (fun K hK => ?_) AllReadyH.nil)
          have _hI : True := trivial
          clear _hI
          refine wp_store_blk ?qty18 ?qex18 ?qey18 ?qho18 ?qgg18 ?qcc18 ?qhx18 ?qhy18 ?qtt18 ?qold18 ?qhb18 ?qhi18 ?qhd18 ?qh118 ?qre18
          case qcc18 => exact #[.int .i64 b, .slice B1 n c1]
          case qty18 => exact 24
          case qtt18 => exact 24
          case qgg18 => exact g7
          case qold18 => exact #[.int .i64 0, .slice none 0 0]
          case qex18 => exact (.tmp 7)
          case qey18 => exact (.tmp 29)
          case qho18 => rfl
          case qhb18 => exact G7.out
          case qhi18 => kernel_rfl
          case qhd18 => rfl
          case qh118 => first | rfl | (simp [Value.oneCell'])
          case qhx18 => rfl
          case qhy18 => rfl
          intro Wn18 hB hf
          replace D1 := Lib.hid ((D1.out).frS hf G7.out (by decide) (by decide))
          replace D2 := Lib.hid ((D2.out).frS hf G7.out (by decide) (by decide))
          replace G8 := Lib.hid ((G8.out).fr1 hf (NE.out).symm)
          replace G7 := Lib.hid hB
          have U18 := Lib.hid (Fr0.new U17.out hf Lg7.out)
          clear hB hf
          refine hK.out _ _ U18.out ?_
          clear hK
          try simp only [Act.put, List.setIfInBounds_toArray, List.set_cons_zero, List.set_cons_succ]
          have _hI : True := trivial
          clear _hI
          refine wpAnyH_ready (rs := [7]) (by kernel_rfl) (by simp) (consG rfl rfl (fun K hK => ?_) AllReadyH.nil)
          have _hI : True := trivial
          clear _hI
          refine wp_store_blk ?qty19 ?qex19 ?qey19 ?qho19 ?qgg19 ?qcc19 ?qhx19 ?qhy19 ?qtt19 ?qold19 ?qhb19 ?qhi19 ?qhd19 ?qh119 ?qre19
          case qcc19 => exact #[.int .i64 b2, .slice B2 n2 c2']
          case qty19 => exact 24
          case qtt19 => exact 24
          case qgg19 => exact g8
          case qold19 => exact #[.int .i64 0, .slice none 0 0]
          case qex19 => exact (.tmp 8)
          case qey19 => exact (.tmp 31)
          case qho19 => rfl
          case qhb19 => exact G8.out
          case qhi19 => kernel_rfl
          case qhd19 => rfl
          case qh119 => first | rfl | (simp [Value.oneCell'])
          case qhx19 => rfl
          case qhy19 => rfl
          intro Wn19 hB hf
          replace D1 := Lib.hid ((D1.out).frS hf G8.out (by decide) (by decide))
          replace D2 := Lib.hid ((D2.out).frS hf G8.out (by decide) (by decide))
          replace G7 := Lib.hid ((G7.out).fr1 hf NE.out)
          replace G8 := Lib.hid hB
          have U19 := Lib.hid (Fr0.new U18.out hf Lg8.out)
          clear hB hf
          refine hK.out _ _ U19.out ?_
          clear hK
          try simp only [Act.put, List.setIfInBounds_toArray, List.set_cons_zero, List.set_cons_succ]
          refine wpAnyH_done (by kernel_rfl) ?_ _
          go_wp2_with fail
          go_meet
          exact ⟨g7, g8, B1, c1, B2, c2', rfl, rfl, U19.out, G7.out, G8.out, D1.out, D2.out⟩
      ·
        have _hI : True := trivial
        clear _hI
        refine wp_alloc_blk 24 rfl #[.int .i64 0, .slice none 0 0] (fun W => stZ_run W) ?_
        intro g8 Wn20 hB hf hg
        have Lg8 := Lib.hid (show wq.heap.size ≤ g8 from Nat.le_trans (U1.out).size hg)
        replace D1 := Lib.hid ((D1.out).fr0 hf (fun v t h => h.fr0 hf))
        have G8 := Lib.hid hB
        have U20 := Lib.hid (Fr0.trans U1.out hf)
        clear hB hf hg
        refine hK.out _ _ U20.out ?_
        clear hK
        try simp only [Act.put, List.setIfInBounds_toArray, List.set_cons_zero, List.set_cons_succ]
        have _hI : True := trivial
        clear _hI
        refine wpAnyH_ready (rs := [3, 4]) (by kernel_rfl) (by simp) (consG rfl rfl (fun K hK => ?_) (consG rfl rfl (fun K hK => ?_) AllReadyH.nil))
        ·
          have _hI : True := trivial
          clear _hI
          go_simp
          refine (HCO2.out _ U20.out).mono ?_
          rintro e Wn21 ⟨B2, c2', rfl, hd, hf⟩
          replace D1 := Lib.hid ((D1.out).fr0 hf (fun v t h => h.fr0 hf))
          replace G8 := Lib.hid ((G8.out).fr0 hf)
          have D2 := Lib.hid (hd.mono (b2 := w.heap.size) (T2 := SlO w.heap.size) (Nat.le_trans (F.out).size (U20.out).size) (fun v t h => h.low (Nat.le_trans (F.out).size (U20.out).size)))
          have U21 := Lib.hid (Fr0.trans U20.out hf)
          clear hf hd
          refine hK.out _ _ U21.out ?_
          clear hK
          try simp only [Act.put, List.setIfInBounds_toArray, List.set_cons_zero, List.set_cons_succ]
          have _hI : True := trivial
          clear _hI
          refine wpAnyH_ready (rs := [4]) (by kernel_rfl) (by simp) (consG rfl rfl (fun K hK => ?_) AllReadyH.nil)
          have _hI : True := trivial
          clear _hI
          refine wp_alloc_blk 24 rfl #[.int .i64 0, .slice none 0 0] (fun W => stZ_run W) ?_
          intro g7 Wn22 hB hf hg
          have NE := Lib.hid (show g7 ≠ g8 from by have := (G8.out).lt; omega)
          have Lg7 := Lib.hid (show wq.heap.size ≤ g7 from Nat.le_trans (U21.out).size hg)
          replace D1 := Lib.hid ((D1.out).fr0 hf (fun v t h => h.fr0 hf))
          replace G8 := Lib.hid ((G8.out).fr0 hf)
          replace D2 := Lib.hid ((D2.out).fr0 hf (fun v t h => h.fr0 hf))
          have G7 := Lib.hid hB
          have U22 := Lib.hid (Fr0.trans U21.out hf)
          clear hB hf hg
          refine hK.out _ _ U22.out ?_
          clear hK
          try simp only [Act.put, List.setIfInBounds_toArray, List.set_cons_zero, List.set_cons_succ]
          have _hI : True := trivial
          clear _hI
          refine wpAnyH_ready (rs := [6]) (by kernel_rfl) (by simp) (consG rfl rfl (fun K hK => ?_) AllReadyH.nil)
          have _hI : True := trivial
          clear _hI
          refine wp_store_blk ?qty23 ?qex23 ?qey23 ?qho23 ?qgg23 ?qcc23 ?qhx23 ?qhy23 ?qtt23 ?qold23 ?qhb23 ?qhi23 ?qhd23 ?qh123 ?qre23
          case qcc23 => exact #[.int .i64 b, .slice B1 n c1]
          case qty23 => exact 24
          case qtt23 => exact 24
          case qgg23 => exact g7
          case qold23 => exact #[.int .i64 0, .slice none 0 0]
          case qex23 => exact (.tmp 7)
          case qey23 => exact (.tmp 29)
          case qho23 => rfl
          case qhb23 => exact G7.out
          case qhi23 => kernel_rfl
          case qhd23 => rfl
          case qh123 => first | rfl | (simp [Value.oneCell'])
          case qhx23 => rfl
          case qhy23 => rfl
          intro Wn23 hB hf
          replace D1 := Lib.hid ((D1.out).frS hf G7.out (by decide) (by decide))
          replace D2 := Lib.hid ((D2.out).frS hf G7.out (by decide) (by decide))
          replace G8 := Lib.hid ((G8.out).fr1 hf (NE.out).symm)
          replace G7 := Lib.hid hB
          have U23 := Lib.hid (Fr0.new U22.out hf Lg7.out)
          clear hB hf
          refine hK.out _ _ U23.out ?_
          clear hK
          try simp only [Act.put, List.setIfInBounds_toArray, List.set_cons_zero, List.set_cons_succ]
          have _hI : True := trivial
          clear _hI
          refine wpAnyH_ready (rs := [7]) (by kernel_rfl) (by simp) (consG rfl rfl (fun K hK => ?_) AllReadyH.nil)
          have _hI : True := trivial
          clear _hI
          refine wp_store_blk ?qty24 ?qex24 ?qey24 ?qho24 ?qgg24 ?qcc24 ?qhx24 ?qhy24 ?qtt24 ?qold24 ?qhb24 ?qhi24 ?qhd24 ?qh124 ?qre24
          case qcc24 => exact #[.int .i64 b2, .slice B2 n2 c2']
          case qty24 => exact 24
          case qtt24 => exact 24
          case qgg24 => exact g8
          case qold24 => exact #[.int .i64 0, .slice none 0 0]
          case qex24 => exact (.tmp 8)
          case qey24 => exact (.tmp 31)
          case qho24 => rfl
          case qhb24 => exact G8.out
          case qhi24 => kernel_rfl
          case qhd24 => rfl
          case qh124 => first | rfl | (simp [Value.oneCell'])
          case qhx24 => rfl
          case qhy24 => rfl
          intro Wn24 hB hf
          replace D1 := Lib.hid ((D1.out).frS hf G8.out (by decide) (by decide))
          replace D2 := Lib.hid ((D2.out).frS hf G8.out (by decide) (by decide))
          replace G7 := Lib.hid ((G7.out).fr1 hf NE.out)
          replace G8 := Lib.hid hB
          have U24 := Lib.hid (Fr0.new U23.out hf Lg8.out)
          clear hB hf
          refine hK.out _ _ U24.out ?_
          clear hK
          try simp only [Act.put, List.setIfInBounds_toArray, List.set_cons_zero, List.set_cons_succ]
          refine wpAnyH_done (by kernel_rfl) ?_ _
          go_wp2_with fail
          go_meet
          exact ⟨g7, g8, B1, c1, B2, c2', rfl, rfl, U24.out, G7.out, G8.out, D1.out, D2.out⟩
        ·
          have _hI : True := trivial
          clear _hI
          refine wp_alloc_blk 24 rfl #[.int .i64 0, .slice none 0 0] (fun W => stZ_run W) ?_
          intro g7 Wn25 hB hf hg
          have NE := Lib.hid (show g7 ≠ g8 from by have := (G8.out).lt; omega)
          have Lg7 := Lib.hid (show wq.heap.size ≤ g7 from Nat.le_trans (U20.out).size hg)
          replace D1 := Lib.hid ((D1.out).fr0 hf (fun v t h => h.fr0 hf))
          replace G8 := Lib.hid ((G8.out).fr0 hf)
          have G7 := Lib.hid hB
          have U25 := Lib.hid (Fr0.trans U20.out hf)
          clear hB hf hg
          refine hK.out _ _ U25.out ?_
          clear hK
          try simp only [Act.put, List.setIfInBounds_toArray, List.set_cons_zero, List.set_cons_succ]
          have _hI : True := trivial
          clear _hI
          refine wpAnyH_ready (rs := [3]) (by kernel_rfl) (by simp) (consG rfl rfl (fun K hK => ?_) AllReadyH.nil)
          have _hI : True := trivial
          clear _hI
          go_simp
          refine (HCO2.out _ U25.out).mono ?_
          rintro e Wn26 ⟨B2, c2', rfl, hd, hf⟩
          replace D1 := Lib.hid ((D1.out).fr0 hf (fun v t h => h.fr0 hf))
          replace G8 := Lib.hid ((G8.out).fr0 hf)
          replace G7 := Lib.hid ((G7.out).fr0 hf)
          have D2 := Lib.hid (hd.mono (b2 := w.heap.size) (T2 := SlO w.heap.size) (Nat.le_trans (F.out).size (U25.out).size) (fun v t h => h.low (Nat.le_trans (F.out).size (U25.out).size)))
          have U26 := Lib.hid (Fr0.trans U25.out hf)
          clear hf hd
          refine hK.out _ _ U26.out ?_
          clear hK
          try simp only [Act.put, List.setIfInBounds_toArray, List.set_cons_zero, List.set_cons_succ]
          have _hI : True := trivial
          clear _hI
          refine wpAnyH_ready (rs := [6]) (by kernel_rfl) (by simp) (consG rfl rfl (fun K hK => ?_) AllReadyH.nil)
          have _hI : True := trivial
          clear _hI
          refine wp_store_blk ?qty27 ?qex27 ?qey27 ?qho27 ?qgg27 ?qcc27 ?qhx27 ?qhy27 ?qtt27 ?qold27 ?qhb27 ?qhi27 ?qhd27 ?qh127 ?qre27
          case qcc27 => exact #[.int .i64 b, .slice B1 n c1]
          case qty27 => exact 24
          case qtt27 => exact 24
          case qgg27 => exact g7
          case qold27 => exact #[.int .i64 0, .slice none 0 0]
          case qex27 => exact (.tmp 7)
          case qey27 => exact (.tmp 29)
          case qho27 => rfl
          case qhb27 => exact G7.out
          case qhi27 => kernel_rfl
          case qhd27 => rfl
          case qh127 => first | rfl | (simp [Value.oneCell'])
          case qhx27 => rfl
          case qhy27 => rfl
          intro Wn27 hB hf
          replace D1 := Lib.hid ((D1.out).frS hf G7.out (by decide) (by decide))
          replace D2 := Lib.hid ((D2.out).frS hf G7.out (by decide) (by decide))
          replace G8 := Lib.hid ((G8.out).fr1 hf (NE.out).symm)
          replace G7 := Lib.hid hB
          have U27 := Lib.hid (Fr0.new U26.out hf Lg7.out)
          clear hB hf
          refine hK.out _ _ U27.out ?_
          clear hK
          try simp only [Act.put, List.setIfInBounds_toArray, List.set_cons_zero, List.set_cons_succ]
          have _hI : True := trivial
          clear _hI
          refine wpAnyH_ready (rs := [7]) (by kernel_rfl) (by simp) (consG rfl rfl (fun K hK => ?_) AllReadyH.nil)
          have _hI : True := trivial
          clear _hI
          refine wp_store_blk ?qty28 ?qex28 ?qey28 ?qho28 ?qgg28 ?qcc28 ?qhx28 ?qhy28 ?qtt28 ?qold28 ?qhb28 ?qhi28 ?qhd28 ?qh128 ?qre28
          case qcc28 => exact #[.int .i64 b2, .slice B2 n2 c2']
          case qty28 => exact 24
          case qtt28 => exact 24
          case qgg28 => exact g8
          case qold28 => exact #[.int .i64 0, .slice none 0 0]
          case qex28 => exact (.tmp 8)
          case qey28 => exact (.tmp 31)
          case qho28 => rfl
          case qhb28 => exact G8.out
          case qhi28 => kernel_rfl
          case qhd28 => rfl
          case qh128 => first | rfl | (simp [Value.oneCell'])
          case qhx28 => rfl
          case qhy28 => rfl
          intro Wn28 hB hf
          replace D1 := Lib.hid ((D1.out).frS hf G8.out (by decide) (by decide))
          replace D2 := Lib.hid ((D2.out).frS hf G8.out (by decide) (by decide))
          replace G7 := Lib.hid ((G7.out).fr1 hf NE.out)
          replace G8 := Lib.hid hB
          have U28 := Lib.hid (Fr0.new U27.out hf Lg8.out)
          clear hB hf
          refine hK.out _ _ U28.out ?_
          clear hK
          try simp only [Act.put, List.setIfInBounds_toArray, List.set_cons_zero, List.set_cons_succ]
          refine wpAnyH_done (by kernel_rfl) ?_ _
          go_wp2_with fail
          go_meet
          exact ⟨g7, g8, B1, c1, B2, c2', rfl, rfl, U28.out, G7.out, G8.out, D1.out, D2.out⟩
    ·
      have _hI : True := trivial
      clear _hI
      refine wp_alloc_blk 24 rfl #[.int .i64 0, .slice none 0 0] (fun W => stZ_run W) ?_
      intro g7 Wn29 hB hf hg
      have Lg7 := Lib.hid (show wq.heap.size ≤ g7 from Nat.le_trans (U0.out).size hg)
      have G7 := Lib.hid hB
      have U29 := Lib.hid (Fr0.trans U0.out hf)
      clear hB hf hg
      refine hK.out _ _ U29.out ?_
      clear hK
      try simp only [Act.put, List.setIfInBounds_toArray, List.set_cons_zero, List.set_cons_succ]
      have _hI : True := trivial
      clear _hI
      refine wpAnyH_ready (rs := [1, 5]) (by kernel_rfl) (by simp) (consG rfl rfl (fun K hK => ?_) (consG rfl rfl (fun K hK => ?_) AllReadyH.nil))
      ·
        have _hI : True := trivial
        clear _hI
        go_simp
        refine (HCO1.out _ U29.out).mono ?_
        rintro e Wn30 ⟨B1, c1, rfl, hd, hf⟩
        replace G7 := Lib.hid ((G7.out).fr0 hf)
        have D1 := Lib.hid (hd.mono (b2 := w.heap.size) (T2 := SlO w.heap.size) (Nat.le_trans (F.out).size (U29.out).size) (fun v t h => h.low (Nat.le_trans (F.out).size (U29.out).size)))
        have U30 := Lib.hid (Fr0.trans U29.out hf)
        clear hf hd
        refine hK.out _ _ U30.out ?_
        clear hK
        try simp only [Act.put, List.setIfInBounds_toArray, List.set_cons_zero, List.set_cons_succ]
        have _hI : True := trivial
        clear _hI
        refine wpAnyH_ready (rs := [3, 5]) (by kernel_rfl) (by simp) (consG rfl rfl (fun K hK => ?_) (consG rfl rfl (fun K hK => ?_) AllReadyH.nil))
        ·
          have _hI : True := trivial
          clear _hI
          go_simp
          refine (HCO2.out _ U30.out).mono ?_
          rintro e Wn31 ⟨B2, c2', rfl, hd, hf⟩
          replace G7 := Lib.hid ((G7.out).fr0 hf)
          replace D1 := Lib.hid ((D1.out).fr0 hf (fun v t h => h.fr0 hf))
          have D2 := Lib.hid (hd.mono (b2 := w.heap.size) (T2 := SlO w.heap.size) (Nat.le_trans (F.out).size (U30.out).size) (fun v t h => h.low (Nat.le_trans (F.out).size (U30.out).size)))
          have U31 := Lib.hid (Fr0.trans U30.out hf)
          clear hf hd
          refine hK.out _ _ U31.out ?_
          clear hK
          try simp only [Act.put, List.setIfInBounds_toArray, List.set_cons_zero, List.set_cons_succ]
          have _hI : True := trivial
          clear _hI
          refine wpAnyH_ready (rs := [5]) (by kernel_rfl) (by simp) (consG rfl rfl (fun K hK => ?_) AllReadyH.nil)
          have _hI : True := trivial
          clear _hI
          refine wp_alloc_blk 24 rfl #[.int .i64 0, .slice none 0 0] (fun W => stZ_run W) ?_
          intro g8 Wn32 hB hf hg
          have NE := Lib.hid (show g7 ≠ g8 from by have := (G7.out).lt; omega)
          have Lg8 := Lib.hid (show wq.heap.size ≤ g8 from Nat.le_trans (U31.out).size hg)
          replace G7 := Lib.hid ((G7.out).fr0 hf)
          replace D1 := Lib.hid ((D1.out).fr0 hf (fun v t h => h.fr0 hf))
          replace D2 := Lib.hid ((D2.out).fr0 hf (fun v t h => h.fr0 hf))
          have G8 := Lib.hid hB
          have U32 := Lib.hid (Fr0.trans U31.out hf)
          clear hB hf hg
          refine hK.out _ _ U32.out ?_
          clear hK
          try simp only [Act.put, List.setIfInBounds_toArray, List.set_cons_zero, List.set_cons_succ]
          have _hI : True := trivial
          clear _hI
          refine wpAnyH_ready (rs := [6]) (by kernel_rfl) (by simp) (consG rfl rfl (fun K hK => ?_) AllReadyH.nil)
          have _hI : True := trivial
          clear _hI
          refine wp_store_blk ?qty33 ?qex33 ?qey33 ?qho33 ?qgg33 ?qcc33 ?qhx33 ?qhy33 ?qtt33 ?qold33 ?qhb33 ?qhi33 ?qhd33 ?qh133 ?qre33
          case qcc33 => exact #[.int .i64 b, .slice B1 n c1]
          case qty33 => exact 24
          case qtt33 => exact 24
          case qgg33 => exact g7
          case qold33 => exact #[.int .i64 0, .slice none 0 0]
          case qex33 => exact (.tmp 7)
          case qey33 => exact (.tmp 29)
          case qho33 => rfl
          case qhb33 => exact G7.out
          case qhi33 => kernel_rfl
          case qhd33 => rfl
          case qh133 => first | rfl | (simp [Value.oneCell'])
          case qhx33 => rfl
          case qhy33 => rfl
          intro Wn33 hB hf
          replace D1 := Lib.hid ((D1.out).frS hf G7.out (by decide) (by decide))
          replace D2 := Lib.hid ((D2.out).frS hf G7.out (by decide) (by decide))
          replace G8 := Lib.hid ((G8.out).fr1 hf (NE.out).symm)
          replace G7 := Lib.hid hB
          have U33 := Lib.hid (Fr0.new U32.out hf Lg7.out)
          clear hB hf
          refine hK.out _ _ U33.out ?_
          clear hK
          try simp only [Act.put, List.setIfInBounds_toArray, List.set_cons_zero, List.set_cons_succ]
          have _hI : True := trivial
          clear _hI
          refine wpAnyH_ready (rs := [7]) (by kernel_rfl) (by simp) (consG rfl rfl (fun K hK => ?_) AllReadyH.nil)
          have _hI : True := trivial
          clear _hI
          refine wp_store_blk ?qty34 ?qex34 ?qey34 ?qho34 ?qgg34 ?qcc34 ?qhx34 ?qhy34 ?qtt34 ?qold34 ?qhb34 ?qhi34 ?qhd34 ?qh134 ?qre34
          case qcc34 => exact #[.int .i64 b2, .slice B2 n2 c2']
          case qty34 => exact 24
          case qtt34 => exact 24
          case qgg34 => exact g8
          case qold34 => exact #[.int .i64 0, .slice none 0 0]
          case qex34 => exact (.tmp 8)
          case qey34 => exact (.tmp 31)
          case qho34 => rfl
          case qhb34 => exact G8.out
          case qhi34 => kernel_rfl
          case qhd34 => rfl
          case qh134 => first | rfl | (simp [Value.oneCell'])
          case qhx34 => rfl
          case qhy34 => rfl
          intro Wn34 hB hf
          replace D1 := Lib.hid ((D1.out).frS hf G8.out (by decide) (by decide))
          replace D2 := Lib.hid ((D2.out).frS hf G8.out (by decide) (by decide))
          replace G7 := Lib.hid ((G7.out).fr1 hf NE.out)
          replace G8 := Lib.hid hB
          have U34 := Lib.hid (Fr0.new U33.out hf Lg8.out)
          clear hB hf
          refine hK.out _ _ U34.out ?_
          clear hK
          try simp only [Act.put, List.setIfInBounds_toArray, List.set_cons_zero, List.set_cons_succ]
          refine wpAnyH_done (by kernel_rfl) ?_ _
          go_wp2_with fail
          go_meet
          exact ⟨g7, g8, B1, c1, B2, c2', rfl, rfl, U34.out, G7.out, G8.out, D1.out, D2.out⟩
        ·
          have _hI : True := trivial
          clear _hI
          refine wp_alloc_blk 24 rfl #[.int .i64 0, .slice none 0 0] (fun W => stZ_run W) ?_
          intro g8 Wn35 hB hf hg
          have NE := Lib.hid (show g7 ≠ g8 from by have := (G7.out).lt; omega)
          have Lg8 := Lib.hid (show wq.heap.size ≤ g8 from Nat.le_trans (U30.out).size hg)
          replace G7 := Lib.hid ((G7.out).fr0 hf)
          replace D1 := Lib.hid ((D1.out).fr0 hf (fun v t h => h.fr0 hf))
          have G8 := Lib.hid hB
          have U35 := Lib.hid (Fr0.trans U30.out hf)
          clear hB hf hg
          refine hK.out _ _ U35.out ?_
          clear hK
          try simp only [Act.put, List.setIfInBounds_toArray, List.set_cons_zero, List.set_cons_succ]
          have _hI : True := trivial
          clear _hI
          refine wpAnyH_ready (rs := [3]) (by kernel_rfl) (by simp) (consG rfl rfl (fun K hK => ?_) AllReadyH.nil)
          have _hI : True := trivial
          clear _hI
          go_simp
          refine (HCO2.out _ U35.out).mono ?_
          rintro e Wn36 ⟨B2, c2', rfl, hd, hf⟩
          replace G7 := Lib.hid ((G7.out).fr0 hf)
          replace D1 := Lib.hid ((D1.out).fr0 hf (fun v t h => h.fr0 hf))
          replace G8 := Lib.hid ((G8.out).fr0 hf)
          have D2 := Lib.hid (hd.mono (b2 := w.heap.size) (T2 := SlO w.heap.size) (Nat.le_trans (F.out).size (U35.out).size) (fun v t h => h.low (Nat.le_trans (F.out).size (U35.out).size)))
          have U36 := Lib.hid (Fr0.trans U35.out hf)
          clear hf hd
          refine hK.out _ _ U36.out ?_
          clear hK
          try simp only [Act.put, List.setIfInBounds_toArray, List.set_cons_zero, List.set_cons_succ]
          have _hI : True := trivial
          clear _hI
          refine wpAnyH_ready (rs := [6]) (by kernel_rfl) (by simp) (consG rfl rfl (fun K hK => ?_) AllReadyH.nil)
          have _hI : True := trivial
          clear _hI
          refine wp_store_blk ?qty37 ?qex37 ?qey37 ?qho37 ?qgg37 ?qcc37 ?qhx37 ?qhy37 ?qtt37 ?qold37 ?qhb37 ?qhi37 ?qhd37 ?qh137 ?qre37
          case qcc37 => exact #[.int .i64 b, .slice B1 n c1]
          case qty37 => exact 24
          case qtt37 => exact 24
          case qgg37 => exact g7
          case qold37 => exact #[.int .i64 0, .slice none 0 0]
          case qex37 => exact (.tmp 7)
          case qey37 => exact (.tmp 29)
          case qho37 => rfl
          case qhb37 => exact G7.out
          case qhi37 => kernel_rfl
          case qhd37 => rfl
          case qh137 => first | rfl | (simp [Value.oneCell'])
          case qhx37 => rfl
          case qhy37 => rfl
          intro Wn37 hB hf
          replace D1 := Lib.hid ((D1.out).frS hf G7.out (by decide) (by decide))
          replace D2 := Lib.hid ((D2.out).frS hf G7.out (by decide) (by decide))
          replace G8 := Lib.hid ((G8.out).fr1 hf (NE.out).symm)
          replace G7 := Lib.hid hB
          have U37 := Lib.hid (Fr0.new U36.out hf Lg7.out)
          clear hB hf
          refine hK.out _ _ U37.out ?_
          clear hK
          try simp only [Act.put, List.setIfInBounds_toArray, List.set_cons_zero, List.set_cons_succ]
          have _hI : True := trivial
          clear _hI
          refine wpAnyH_ready (rs := [7]) (by kernel_rfl) (by simp) (consG rfl rfl (fun K hK => ?_) AllReadyH.nil)
          have _hI : True := trivial
          clear _hI
          refine wp_store_blk ?qty38 ?qex38 ?qey38 ?qho38 ?qgg38 ?qcc38 ?qhx38 ?qhy38 ?qtt38 ?qold38 ?qhb38 ?qhi38 ?qhd38 ?qh138 ?qre38
          case qcc38 => exact #[.int .i64 b2, .slice B2 n2 c2']
          case qty38 => exact 24
          case qtt38 => exact 24
          case qgg38 => exact g8
          case qold38 => exact #[.int .i64 0, .slice none 0 0]
          case qex38 => exact (.tmp 8)
          case qey38 => exact (.tmp 31)
          case qho38 => rfl
          case qhb38 => exact G8.out
          case qhi38 => kernel_rfl
          case qhd38 => rfl
          case qh138 => first | rfl | (simp [Value.oneCell'])
          case qhx38 => rfl
          case qhy38 => rfl
          intro Wn38 hB hf
          replace D1 := Lib.hid ((D1.out).frS hf G8.out (by decide) (by decide))
          replace D2 := Lib.hid ((D2.out).frS hf G8.out (by decide) (by decide))
          replace G7 := Lib.hid ((G7.out).fr1 hf NE.out)
          replace G8 := Lib.hid hB
          have U38 := Lib.hid (Fr0.new U37.out hf Lg8.out)
          clear hB hf
          refine hK.out _ _ U38.out ?_
          clear hK
          try simp only [Act.put, List.setIfInBounds_toArray, List.set_cons_zero, List.set_cons_succ]
          refine wpAnyH_done (by kernel_rfl) ?_ _
          go_wp2_with fail
          go_meet
          exact ⟨g7, g8, B1, c1, B2, c2', rfl, rfl, U38.out, G7.out, G8.out, D1.out, D2.out⟩
      ·
        have _hI : True := trivial
        clear _hI
        refine wp_alloc_blk 24 rfl #[.int .i64 0, .slice none 0 0] (fun W => stZ_run W) ?_
        intro g8 Wn39 hB hf hg
        have NE := Lib.hid (show g7 ≠ g8 from by have := (G7.out).lt; omega)
        have Lg8 := Lib.hid (show wq.heap.size ≤ g8 from Nat.le_trans (U29.out).size hg)
        replace G7 := Lib.hid ((G7.out).fr0 hf)
        have G8 := Lib.hid hB
        have U39 := Lib.hid (Fr0.trans U29.out hf)
        clear hB hf hg
        refine hK.out _ _ U39.out ?_
        clear hK
        try simp only [Act.put, List.setIfInBounds_toArray, List.set_cons_zero, List.set_cons_succ]
        have _hI : True := trivial
        clear _hI
        refine wpAnyH_ready (rs := [1]) (by kernel_rfl) (by simp) (consG rfl rfl (fun K hK => ?_) AllReadyH.nil)
        have _hI : True := trivial
        clear _hI
        go_simp
        refine (HCO1.out _ U39.out).mono ?_
        rintro e Wn40 ⟨B1, c1, rfl, hd, hf⟩
        replace G7 := Lib.hid ((G7.out).fr0 hf)
        replace G8 := Lib.hid ((G8.out).fr0 hf)
        have D1 := Lib.hid (hd.mono (b2 := w.heap.size) (T2 := SlO w.heap.size) (Nat.le_trans (F.out).size (U39.out).size) (fun v t h => h.low (Nat.le_trans (F.out).size (U39.out).size)))
        have U40 := Lib.hid (Fr0.trans U39.out hf)
        clear hf hd
        refine hK.out _ _ U40.out ?_
        clear hK
        try simp only [Act.put, List.setIfInBounds_toArray, List.set_cons_zero, List.set_cons_succ]
        have _hI : True := trivial
        clear _hI
        refine wpAnyH_ready (rs := [3]) (by kernel_rfl) (by simp) (consG rfl rfl (fun K hK => ?_) AllReadyH.nil)
        have _hI : True := trivial
        clear _hI
        go_simp
        refine (HCO2.out _ U40.out).mono ?_
        rintro e Wn41 ⟨B2, c2', rfl, hd, hf⟩
        replace G7 := Lib.hid ((G7.out).fr0 hf)
        replace G8 := Lib.hid ((G8.out).fr0 hf)
        replace D1 := Lib.hid ((D1.out).fr0 hf (fun v t h => h.fr0 hf))
        have D2 := Lib.hid (hd.mono (b2 := w.heap.size) (T2 := SlO w.heap.size) (Nat.le_trans (F.out).size (U40.out).size) (fun v t h => h.low (Nat.le_trans (F.out).size (U40.out).size)))
        have U41 := Lib.hid (Fr0.trans U40.out hf)
        clear hf hd
        refine hK.out _ _ U41.out ?_
        clear hK
        try simp only [Act.put, List.setIfInBounds_toArray, List.set_cons_zero, List.set_cons_succ]
        have _hI : True := trivial
        clear _hI
        refine wpAnyH_ready (rs := [6]) (by kernel_rfl) (by simp) (consG rfl rfl (fun K hK => ?_) AllReadyH.nil)
        have _hI : True := trivial
        clear _hI
        refine wp_store_blk ?qty42 ?qex42 ?qey42 ?qho42 ?qgg42 ?qcc42 ?qhx42 ?qhy42 ?qtt42 ?qold42 ?qhb42 ?qhi42 ?qhd42 ?qh142 ?qre42
        case qcc42 => exact #[.int .i64 b, .slice B1 n c1]
        case qty42 => exact 24
        case qtt42 => exact 24
        case qgg42 => exact g7
        case qold42 => exact #[.int .i64 0, .slice none 0 0]
        case qex42 => exact (.tmp 7)
        case qey42 => exact (.tmp 29)
        case qho42 => rfl
        case qhb42 => exact G7.out
        case qhi42 => kernel_rfl
        case qhd42 => rfl
        case qh142 => first | rfl | (simp [Value.oneCell'])
        case qhx42 => rfl
        case qhy42 => rfl
        intro Wn42 hB hf
        replace D1 := Lib.hid ((D1.out).frS hf G7.out (by decide) (by decide))
        replace D2 := Lib.hid ((D2.out).frS hf G7.out (by decide) (by decide))
        replace G8 := Lib.hid ((G8.out).fr1 hf (NE.out).symm)
        replace G7 := Lib.hid hB
        have U42 := Lib.hid (Fr0.new U41.out hf Lg7.out)
        clear hB hf
        refine hK.out _ _ U42.out ?_
        clear hK
        try simp only [Act.put, List.setIfInBounds_toArray, List.set_cons_zero, List.set_cons_succ]
        have _hI : True := trivial
        clear _hI
        refine wpAnyH_ready (rs := [7]) (by kernel_rfl) (by simp) (consG rfl rfl (fun K hK => ?_) AllReadyH.nil)
        have _hI : True := trivial
        clear _hI
        refine wp_store_blk ?qty43 ?qex43 ?qey43 ?qho43 ?qgg43 ?qcc43 ?qhx43 ?qhy43 ?qtt43 ?qold43 ?qhb43 ?qhi43 ?qhd43 ?qh143 ?qre43
        case qcc43 => exact #[.int .i64 b2, .slice B2 n2 c2']
        case qty43 => exact 24
        case qtt43 => exact 24
        case qgg43 => exact g8
        case qold43 => exact #[.int .i64 0, .slice none 0 0]
        case qex43 => exact (.tmp 8)
        case qey43 => exact (.tmp 31)
        case qho43 => rfl
        case qhb43 => exact G8.out
        case qhi43 => kernel_rfl
        case qhd43 => rfl
        case qh143 => first | rfl | (simp [Value.oneCell'])
        case qhx43 => rfl
        case qhy43 => rfl
        intro Wn43 hB hf
        replace D1 := Lib.hid ((D1.out).frS hf G8.out (by decide) (by decide))
        replace D2 := Lib.hid ((D2.out).frS hf G8.out (by decide) (by decide))
        replace G7 := Lib.hid ((G7.out).fr1 hf NE.out)
        replace G8 := Lib.hid hB
        have U43 := Lib.hid (Fr0.new U42.out hf Lg8.out)
        clear hB hf
        refine hK.out _ _ U43.out ?_
        clear hK
        try simp only [Act.put, List.setIfInBounds_toArray, List.set_cons_zero, List.set_cons_succ]
        refine wpAnyH_done (by kernel_rfl) ?_ _
        go_wp2_with fail
        go_meet
        exact ⟨g7, g8, B1, c1, B2, c2', rfl, rfl, U43.out, G7.out, G8.out, D1.out, D2.out⟩
    ·
      have _hI : True := trivial
      clear _hI
      refine wp_alloc_blk 24 rfl #[.int .i64 0, .slice none 0 0] (fun W => stZ_run W) ?_
      intro g8 Wn44 hB hf hg
      have Lg8 := Lib.hid (show wq.heap.size ≤ g8 from Nat.le_trans (U0.out).size hg)
      have G8 := Lib.hid hB
      have U44 := Lib.hid (Fr0.trans U0.out hf)
      clear hB hf hg
      refine hK.out _ _ U44.out ?_
      clear hK
      try simp only [Act.put, List.setIfInBounds_toArray, List.set_cons_zero, List.set_cons_succ]
      have _hI : True := trivial
      clear _hI
      refine wpAnyH_ready (rs := [1, 4]) (by kernel_rfl) (by simp) (consG rfl rfl (fun K hK => ?_) (consG rfl rfl (fun K hK => ?_) AllReadyH.nil))
      ·
        have _hI : True := trivial
        clear _hI
        go_simp
        refine (HCO1.out _ U44.out).mono ?_
        rintro e Wn45 ⟨B1, c1, rfl, hd, hf⟩
        replace G8 := Lib.hid ((G8.out).fr0 hf)
        have D1 := Lib.hid (hd.mono (b2 := w.heap.size) (T2 := SlO w.heap.size) (Nat.le_trans (F.out).size (U44.out).size) (fun v t h => h.low (Nat.le_trans (F.out).size (U44.out).size)))
        have U45 := Lib.hid (Fr0.trans U44.out hf)
        clear hf hd
        refine hK.out _ _ U45.out ?_
        clear hK
        try simp only [Act.put, List.setIfInBounds_toArray, List.set_cons_zero, List.set_cons_succ]
        have _hI : True := trivial
        clear _hI
        refine wpAnyH_ready (rs := [3, 4]) (by kernel_rfl) (by simp) (consG rfl rfl (fun K hK => ?_) (consG rfl rfl (fun K hK => ?_) AllReadyH.nil))
        ·
          have _hI : True := trivial
          clear _hI
          go_simp
          refine (HCO2.out _ U45.out).mono ?_
          rintro e Wn46 ⟨B2, c2', rfl, hd, hf⟩
          replace G8 := Lib.hid ((G8.out).fr0 hf)
          replace D1 := Lib.hid ((D1.out).fr0 hf (fun v t h => h.fr0 hf))
          have D2 := Lib.hid (hd.mono (b2 := w.heap.size) (T2 := SlO w.heap.size) (Nat.le_trans (F.out).size (U45.out).size) (fun v t h => h.low (Nat.le_trans (F.out).size (U45.out).size)))
          have U46 := Lib.hid (Fr0.trans U45.out hf)
          clear hf hd
          refine hK.out _ _ U46.out ?_
          clear hK
          try simp only [Act.put, List.setIfInBounds_toArray, List.set_cons_zero, List.set_cons_succ]
          have _hI : True := trivial
          clear _hI
          refine wpAnyH_ready (rs := [4]) (by kernel_rfl) (by simp) (consG rfl rfl (fun K hK => ?_) AllReadyH.nil)
          have _hI : True := trivial
          clear _hI
          refine wp_alloc_blk 24 rfl #[.int .i64 0, .slice none 0 0] (fun W => stZ_run W) ?_
          intro g7 Wn47 hB hf hg
          have NE := Lib.hid (show g7 ≠ g8 from by have := (G8.out).lt; omega)
          have Lg7 := Lib.hid (show wq.heap.size ≤ g7 from Nat.le_trans (U46.out).size hg)
          replace G8 := Lib.hid ((G8.out).fr0 hf)
          replace D1 := Lib.hid ((D1.out).fr0 hf (fun v t h => h.fr0 hf))
          replace D2 := Lib.hid ((D2.out).fr0 hf (fun v t h => h.fr0 hf))
          have G7 := Lib.hid hB
          have U47 := Lib.hid (Fr0.trans U46.out hf)
          clear hB hf hg
          refine hK.out _ _ U47.out ?_
          clear hK
          try simp only [Act.put, List.setIfInBounds_toArray, List.set_cons_zero, List.set_cons_succ]
          have _hI : True := trivial
          clear _hI
          refine wpAnyH_ready (rs := [6]) (by kernel_rfl) (by simp) (consG rfl rfl (fun K hK => ?_) AllReadyH.nil)
          have _hI : True := trivial
          clear _hI
          refine wp_store_blk ?qty48 ?qex48 ?qey48 ?qho48 ?qgg48 ?qcc48 ?qhx48 ?qhy48 ?qtt48 ?qold48 ?qhb48 ?qhi48 ?qhd48 ?qh148 ?qre48
          case qcc48 => exact #[.int .i64 b, .slice B1 n c1]
          case qty48 => exact 24
          case qtt48 => exact 24
          case qgg48 => exact g7
          case qold48 => exact #[.int .i64 0, .slice none 0 0]
          case qex48 => exact (.tmp 7)
          case qey48 => exact (.tmp 29)
          case qho48 => rfl
          case qhb48 => exact G7.out
          case qhi48 => kernel_rfl
          case qhd48 => rfl
          case qh148 => first | rfl | (simp [Value.oneCell'])
          case qhx48 => rfl
          case qhy48 => rfl
          intro Wn48 hB hf
          replace D1 := Lib.hid ((D1.out).frS hf G7.out (by decide) (by decide))
          replace D2 := Lib.hid ((D2.out).frS hf G7.out (by decide) (by decide))
          replace G8 := Lib.hid ((G8.out).fr1 hf (NE.out).symm)
          replace G7 := Lib.hid hB
          have U48 := Lib.hid (Fr0.new U47.out hf Lg7.out)
          clear hB hf
          refine hK.out _ _ U48.out ?_
          clear hK
          try simp only [Act.put, List.setIfInBounds_toArray, List.set_cons_zero, List.set_cons_succ]
          have _hI : True := trivial
          clear _hI
          refine wpAnyH_ready (rs := [7]) (by kernel_rfl) (by simp) (consG rfl rfl (fun K hK => ?_) AllReadyH.nil)
          have _hI : True := trivial
          clear _hI
          refine wp_store_blk ?qty49 ?qex49 ?qey49 ?qho49 ?qgg49 ?qcc49 ?qhx49 ?qhy49 ?qtt49 ?qold49 ?qhb49 ?qhi49 ?qhd49 ?qh149 ?qre49
          case qcc49 => exact #[.int .i64 b2, .slice B2 n2 c2']
          case qty49 => exact 24
          case qtt49 => exact 24
          case qgg49 => exact g8
          case qold49 => exact #[.int .i64 0, .slice none 0 0]
          case qex49 => exact (.tmp 8)
          case qey49 => exact (.tmp 31)
          case qho49 => rfl
          case qhb49 => exact G8.out
          case qhi49 => kernel_rfl
          case qhd49 => rfl
          case qh149 => first | rfl | (simp [Value.oneCell'])
          case qhx49 => rfl
          case qhy49 => rfl
          intro Wn49 hB hf
          replace D1 := Lib.hid ((D1.out).frS hf G8.out (by decide) (by decide))
          replace D2 := Lib.hid ((D2.out).frS hf G8.out (by decide) (by decide))
          replace G7 := Lib.hid ((G7.out).fr1 hf NE.out)
          replace G8 := Lib.hid hB
          have U49 := Lib.hid (Fr0.new U48.out hf Lg8.out)
          clear hB hf
          refine hK.out _ _ U49.out ?_
          clear hK
          try simp only [Act.put, List.setIfInBounds_toArray, List.set_cons_zero, List.set_cons_succ]
          refine wpAnyH_done (by kernel_rfl) ?_ _
          go_wp2_with fail
          go_meet
          exact ⟨g7, g8, B1, c1, B2, c2', rfl, rfl, U49.out, G7.out, G8.out, D1.out, D2.out⟩
        ·
          have _hI : True := trivial
          clear _hI
          refine wp_alloc_blk 24 rfl #[.int .i64 0, .slice none 0 0] (fun W => stZ_run W) ?_
          intro g7 Wn50 hB hf hg
          have NE := Lib.hid (show g7 ≠ g8 from by have := (G8.out).lt; omega)
          have Lg7 := Lib.hid (show wq.heap.size ≤ g7 from Nat.le_trans (U45.out).size hg)
          replace G8 := Lib.hid ((G8.out).fr0 hf)
          replace D1 := Lib.hid ((D1.out).fr0 hf (fun v t h => h.fr0 hf))
          have G7 := Lib.hid hB
          have U50 := Lib.hid (Fr0.trans U45.out hf)
          clear hB hf hg
          refine hK.out _ _ U50.out ?_
          clear hK
          try simp only [Act.put, List.setIfInBounds_toArray, List.set_cons_zero, List.set_cons_succ]
          have _hI : True := trivial
          clear _hI
          refine wpAnyH_ready (rs := [3]) (by kernel_rfl) (by simp) (consG rfl rfl (fun K hK => ?_) AllReadyH.nil)
          have _hI : True := trivial
          clear _hI
          go_simp
          refine (HCO2.out _ U50.out).mono ?_
          rintro e Wn51 ⟨B2, c2', rfl, hd, hf⟩
          replace G8 := Lib.hid ((G8.out).fr0 hf)
          replace D1 := Lib.hid ((D1.out).fr0 hf (fun v t h => h.fr0 hf))
          replace G7 := Lib.hid ((G7.out).fr0 hf)
          have D2 := Lib.hid (hd.mono (b2 := w.heap.size) (T2 := SlO w.heap.size) (Nat.le_trans (F.out).size (U50.out).size) (fun v t h => h.low (Nat.le_trans (F.out).size (U50.out).size)))
          have U51 := Lib.hid (Fr0.trans U50.out hf)
          clear hf hd
          refine hK.out _ _ U51.out ?_
          clear hK
          try simp only [Act.put, List.setIfInBounds_toArray, List.set_cons_zero, List.set_cons_succ]
          have _hI : True := trivial
          clear _hI
          refine wpAnyH_ready (rs := [6]) (by kernel_rfl) (by simp) (consG rfl rfl (fun K hK => ?_) AllReadyH.nil)
          have _hI : True := trivial
          clear _hI
          refine wp_store_blk ?qty52 ?qex52 ?qey52 ?qho52 ?qgg52 ?qcc52 ?qhx52 ?qhy52 ?qtt52 ?qold52 ?qhb52 ?qhi52 ?qhd52 ?qh152 ?qre52
          case qcc52 => exact #[.int .i64 b, .slice B1 n c1]
          case qty52 => exact 24
          case qtt52 => exact 24
          case qgg52 => exact g7
          case qold52 => exact #[.int .i64 0, .slice none 0 0]
          case qex52 => exact (.tmp 7)
          case qey52 => exact (.tmp 29)
          case qho52 => rfl
          case qhb52 => exact G7.out
          case qhi52 => kernel_rfl
          case qhd52 => rfl
          case qh152 => first | rfl | (simp [Value.oneCell'])
          case qhx52 => rfl
          case qhy52 => rfl
          intro Wn52 hB hf
          replace D1 := Lib.hid ((D1.out).frS hf G7.out (by decide) (by decide))
          replace D2 := Lib.hid ((D2.out).frS hf G7.out (by decide) (by decide))
          replace G8 := Lib.hid ((G8.out).fr1 hf (NE.out).symm)
          replace G7 := Lib.hid hB
          have U52 := Lib.hid (Fr0.new U51.out hf Lg7.out)
          clear hB hf
          refine hK.out _ _ U52.out ?_
          clear hK
          try simp only [Act.put, List.setIfInBounds_toArray, List.set_cons_zero, List.set_cons_succ]
          have _hI : True := trivial
          clear _hI
          refine wpAnyH_ready (rs := [7]) (by kernel_rfl) (by simp) (consG rfl rfl (fun K hK => ?_) AllReadyH.nil)
          have _hI : True := trivial
          clear _hI
          refine wp_store_blk ?qty53 ?qex53 ?qey53 ?qho53 ?qgg53 ?qcc53 ?qhx53 ?qhy53 ?qtt53 ?qold53 ?qhb53 ?qhi53 ?qhd53 ?qh153 ?qre53
          case qcc53 => exact #[.int .i64 b2, .slice B2 n2 c2']
          case qty53 => exact 24
          case qtt53 => exact 24
          case qgg53 => exact g8
          case qold53 => exact #[.int .i64 0, .slice none 0 0]
          case qex53 => exact (.tmp 8)
          case qey53 => exact (.tmp 31)
          case qho53 => rfl
          case qhb53 => exact G8.out
          case qhi53 => kernel_rfl
          case qhd53 => rfl
          case qh153 => first | rfl | (simp [Value.oneCell'])
          case qhx53 => rfl
          case qhy53 => rfl
          intro Wn53 hB hf
          replace D1 := Lib.hid ((D1.out).frS hf G8.out (by decide) (by decide))
          replace D2 := Lib.hid ((D2.out).frS hf G8.out (by decide) (by decide))
          replace G7 := Lib.hid ((G7.out).fr1 hf NE.out)
          replace G8 := Lib.hid hB
          have U53 := Lib.hid (Fr0.new U52.out hf Lg8.out)
          clear hB hf
          refine hK.out _ _ U53.out ?_
          clear hK
          try simp only [Act.put, List.setIfInBounds_toArray, List.set_cons_zero, List.set_cons_succ]
          refine wpAnyH_done (by kernel_rfl) ?_ _
          go_wp2_with fail
          go_meet
          exact ⟨g7, g8, B1, c1, B2, c2', rfl, rfl, U53.out, G7.out, G8.out, D1.out, D2.out⟩
      ·
        have _hI : True := trivial
        clear _hI
        refine wp_alloc_blk 24 rfl #[.int .i64 0, .slice none 0 0] (fun W => stZ_run W) ?_
        intro g7 Wn54 hB hf hg
        have NE := Lib.hid (show g7 ≠ g8 from by have := (G8.out).lt; omega)
        have Lg7 := Lib.hid (show wq.heap.size ≤ g7 from Nat.le_trans (U44.out).size hg)
        replace G8 := Lib.hid ((G8.out).fr0 hf)
        have G7 := Lib.hid hB
        have U54 := Lib.hid (Fr0.trans U44.out hf)
        clear hB hf hg
        refine hK.out _ _ U54.out ?_
        clear hK
        try simp only [Act.put, List.setIfInBounds_toArray, List.set_cons_zero, List.set_cons_succ]
        have _hI : True := trivial
        clear _hI
        refine wpAnyH_ready (rs := [1]) (by kernel_rfl) (by simp) (consG rfl rfl (fun K hK => ?_) AllReadyH.nil)
        have _hI : True := trivial
        clear _hI
        go_simp
        refine (HCO1.out _ U54.out).mono ?_
        rintro e Wn55 ⟨B1, c1, rfl, hd, hf⟩
        replace G8 := Lib.hid ((G8.out).fr0 hf)
        replace G7 := Lib.hid ((G7.out).fr0 hf)
        have D1 := Lib.hid (hd.mono (b2 := w.heap.size) (T2 := SlO w.heap.size) (Nat.le_trans (F.out).size (U54.out).size) (fun v t h => h.low (Nat.le_trans (F.out).size (U54.out).size)))
        have U55 := Lib.hid (Fr0.trans U54.out hf)
        clear hf hd
        refine hK.out _ _ U55.out ?_
        clear hK
        try simp only [Act.put, List.setIfInBounds_toArray, List.set_cons_zero, List.set_cons_succ]
        have _hI : True := trivial
        clear _hI
        refine wpAnyH_ready (rs := [3]) (by kernel_rfl) (by simp) (consG rfl rfl (fun K hK => ?_) AllReadyH.nil)
        have _hI : True := trivial
        clear _hI
        go_simp
        refine (HCO2.out _ U55.out).mono ?_
        rintro e Wn56 ⟨B2, c2', rfl, hd, hf⟩
        replace G8 := Lib.hid ((G8.out).fr0 hf)
        replace G7 := Lib.hid ((G7.out).fr0 hf)
        replace D1 := Lib.hid ((D1.out).fr0 hf (fun v t h => h.fr0 hf))
        have D2 := Lib.hid (hd.mono (b2 := w.heap.size) (T2 := SlO w.heap.size) (Nat.le_trans (F.out).size (U55.out).size) (fun v t h => h.low (Nat.le_trans (F.out).size (U55.out).size)))
        have U56 := Lib.hid (Fr0.trans U55.out hf)
        clear hf hd
        refine hK.out _ _ U56.out ?_
        clear hK
        try simp only [Act.put, List.setIfInBounds_toArray, List.set_cons_zero, List.set_cons_succ]
        have _hI : True := trivial
        clear _hI
        refine wpAnyH_ready (rs := [6]) (by kernel_rfl) (by simp) (consG rfl rfl (fun K hK => ?_) AllReadyH.nil)
        have _hI : True := trivial
        clear _hI
        refine wp_store_blk ?qty57 ?qex57 ?qey57 ?qho57 ?qgg57 ?qcc57 ?qhx57 ?qhy57 ?qtt57 ?qold57 ?qhb57 ?qhi57 ?qhd57 ?qh157 ?qre57
        case qcc57 => exact #[.int .i64 b, .slice B1 n c1]
        case qty57 => exact 24
        case qtt57 => exact 24
        case qgg57 => exact g7
        case qold57 => exact #[.int .i64 0, .slice none 0 0]
        case qex57 => exact (.tmp 7)
        case qey57 => exact (.tmp 29)
        case qho57 => rfl
        case qhb57 => exact G7.out
        case qhi57 => kernel_rfl
        case qhd57 => rfl
        case qh157 => first | rfl | (simp [Value.oneCell'])
        case qhx57 => rfl
        case qhy57 => rfl
        intro Wn57 hB hf
        replace D1 := Lib.hid ((D1.out).frS hf G7.out (by decide) (by decide))
        replace D2 := Lib.hid ((D2.out).frS hf G7.out (by decide) (by decide))
        replace G8 := Lib.hid ((G8.out).fr1 hf (NE.out).symm)
        replace G7 := Lib.hid hB
        have U57 := Lib.hid (Fr0.new U56.out hf Lg7.out)
        clear hB hf
        refine hK.out _ _ U57.out ?_
        clear hK
        try simp only [Act.put, List.setIfInBounds_toArray, List.set_cons_zero, List.set_cons_succ]
        have _hI : True := trivial
        clear _hI
        refine wpAnyH_ready (rs := [7]) (by kernel_rfl) (by simp) (consG rfl rfl (fun K hK => ?_) AllReadyH.nil)
        have _hI : True := trivial
        clear _hI
        refine wp_store_blk ?qty58 ?qex58 ?qey58 ?qho58 ?qgg58 ?qcc58 ?qhx58 ?qhy58 ?qtt58 ?qold58 ?qhb58 ?qhi58 ?qhd58 ?qh158 ?qre58
        case qcc58 => exact #[.int .i64 b2, .slice B2 n2 c2']
        case qty58 => exact 24
        case qtt58 => exact 24
        case qgg58 => exact g8
        case qold58 => exact #[.int .i64 0, .slice none 0 0]
        case qex58 => exact (.tmp 8)
        case qey58 => exact (.tmp 31)
        case qho58 => rfl
        case qhb58 => exact G8.out
        case qhi58 => kernel_rfl
        case qhd58 => rfl
        case qh158 => first | rfl | (simp [Value.oneCell'])
        case qhx58 => rfl
        case qhy58 => rfl
        intro Wn58 hB hf
        replace D1 := Lib.hid ((D1.out).frS hf G8.out (by decide) (by decide))
        replace D2 := Lib.hid ((D2.out).frS hf G8.out (by decide) (by decide))
        replace G7 := Lib.hid ((G7.out).fr1 hf NE.out)
        replace G8 := Lib.hid hB
        have U58 := Lib.hid (Fr0.new U57.out hf Lg8.out)
        clear hB hf
        refine hK.out _ _ U58.out ?_
        clear hK
        try simp only [Act.put, List.setIfInBounds_toArray, List.set_cons_zero, List.set_cons_succ]
        refine wpAnyH_done (by kernel_rfl) ?_ _
        go_wp2_with fail
        go_meet
        exact ⟨g7, g8, B1, c1, B2, c2', rfl, rfl, U58.out, G7.out, G8.out, D1.out, D2.out⟩
  case rest =>
    obtain ⟨g7, g8, B1, c1, B2, c2', rfl, rfl, hf, hG7, hG8, hD1, hD2⟩ := hcut
    replace X := Lib.hid ((X.out).fr0 hf)
    replace Y := Lib.hid ((Y.out).fr0 hf)
    replace F := Lib.hid (Fr0.trans F.out hf)
    have G7 := Lib.hid hG7
    have G8 := Lib.hid hG8
    have D1 := Lib.hid (hD1.ds (fun v t h => h.rd))
    have D2 := Lib.hid (hD2.ds (fun v t h => h.rd))
    have x0 := hG7.cell 0 rfl
    have x1 := hG7.cell 1 rfl
    have y0 := hG8.cell 0 rfl
    have y1 := hG8.cell 1 rfl
    obtain ⟨nd, hnd⟩ : ∃ q, q = fD.length := ⟨_, rfl⟩
    obtain ⟨nz, hnz⟩ : ∃ q, q = lz.length := ⟨_, rfl⟩
    try simp only at HDF
    unfold AddOut at HAP HRA0
    rw [← hnd] at HDF
    rw [← hnz] at HAP
    have HND := Lib.hid hnd
    have HNZ := Lib.hid hnz
    clear hf hG7 hG8 hD1 hD2 HCO1 HCO2 hnd hnz BX BY FX
    go_upto_region 10 with (first
      | (go_at_call 18; refine (HDF.out _ _ _ _ _ D1.out D2.out).mono ?_; rintro e w7 ⟨B7, c7, rfl, hr, hf⟩; have F7 := Lib.hid (Fr0.trans F.out hf); have X7 := Lib.hid ((X.out).fr0 hf); have Y7 := Lib.hid ((Y.out).fr0 hf); have G77 := Lib.hid ((G7.out).fr0 hf); have G87 := Lib.hid ((G8.out).fr0 hf); have D17 := Lib.hid ((D1.out).fr0 hf); have D27 := Lib.hid ((D2.out).fr0 hf); have R7 := Lib.hid hr; have p0 := (G77.out).cell 0 rfl; have p1 := (G77.out).cell 1 rfl; clear hf hr)
      | (go_at_call 19; refine (HAP.out _ _ _ HN3.out F7.out D17.out).mono ?_; rintro e w8 ⟨B8, c8, rfl, hd, hf⟩; have GG := hf.alloc (.cells #[.int .i64 bz, .slice B8 nz c8] 24); have F8 := Lib.hid (Fr0.trans F7.out GG); have X8 := Lib.hid ((X7.out).fr0 GG); have Y8 := Lib.hid ((Y7.out).fr0 GG); have G78 := Lib.hid ((G77.out).fr0 GG); have G88 := Lib.hid ((G87.out).fr0 GG); have D18 := Lib.hid ((D17.out).fr0 GG); have D28 := Lib.hid ((D27.out).fr0 GG); have R8 := Lib.hid ((R7.out).fr0 GG); have Z8 := Lib.hid (Blk.new w8 #[.int .i64 bz, .slice B8 nz c8] 24); have DZ8 := Lib.hid ((hd.ds (fun v t h => h.rd)).fr0 ((Fr0.refl w8).alloc (.cells #[.int .i64 bz, .slice B8 nz c8] 24))); have q0 := (G78.out).cell 0 rfl; have q1 := (G78.out).cell 1 rfl; have q2 := (X8.out).cell 0 rfl; have q3 := (X8.out).cell 1 rfl; clear hf hd GG)
      | (have _q := F9; go_at_call 16; refine (HS2.out _ _ _ F9.out D29.out).mono ?_; rintro e w10 ⟨rfl, hf⟩; have F10 := Lib.hid (Fr0.trans F9.out hf); have X10 := Lib.hid ((X9.out).fr0 hf); have Y10 := Lib.hid ((Y9.out).fr0 hf); have Z10 := Lib.hid ((Z9.out).fr0 hf); have DZ10 := Lib.hid ((DZ9.out).fr0 hf); have R10 := Lib.hid ((R9.out).fr0 hf); clear hf)
      | (go_at_call 16; refine (HS1.out _ _ _ F8.out D18.out).mono ?_; rintro e w9 ⟨rfl, hf⟩; have F9 := Lib.hid (Fr0.trans F8.out hf); have X9 := Lib.hid ((X8.out).fr0 hf); have Y9 := Lib.hid ((Y8.out).fr0 hf); have G89 := Lib.hid ((G88.out).fr0 hf); have D29 := Lib.hid ((D28.out).fr0 hf); have R9 := Lib.hid ((R8.out).fr0 hf); have Z9 := Lib.hid ((Z8.out).fr0 hf); have DZ9 := Lib.hid ((DZ8.out).fr0 hf); have r0 := (G89.out).cell 0 rfl; have r1 := (G89.out).cell 1 rfl; have r2 := (Y9.out).cell 0 rfl; have r3 := (Y9.out).cell 1 rfl; clear hf))
    have F := Lib.hid F10.out
    have X := Lib.hid X10.out
    have Y := Lib.hid Y10.out
    have Z := Lib.hid Z10.out
    have DZ := Lib.hid DZ10.out
    have RR := Lib.hid R10.out
    have HSZ := Lib.hid (fun W B c' B2 c2 (hd : Ds W (.slice B lz.length c') lz) (hd2 : Ds W (.slice B2 lz.length c2) lz) => show Calls Try.prog 16 #[.agg #[.int .i64 bz, .slice B lz.length c'], .agg #[.int .i64 bz, .slice B2 lz.length c2]] W fun e w' => e = .returned (.bool true) ∧ Fr0 W w' from by
      have := rsame_any (b := bz) (b2 := bz) hd hd2
      rwa [decide_eq_true ⟨rfl, rfl⟩] at this)
    rw [← HNZ.out] at HSZ
    have x0 := (X.out).cell 0 rfl
    have x1 := (X.out).cell 1 rfl
    have y0 := (Y.out).cell 0 rfl
    have y1 := (Y.out).cell 1 rfl
    clear F7 F8 F9 F10 X7 X8 X9 X10 Y7 Y8 Y9 Y10 G77 G78 G87 G88 G89 G7 G8 D1 D2 D17 D18 D27 D28 D29 R7 R8 R9 R10 Z8 Z9 Z10 DZ8 DZ9 DZ10 p0 p1 q0 q1 q2 q3 r0 r1 r2 r3 HDF HAP HS1 HS2
    cases m1
    case false =>
      have HV := (HPA.out rfl)
      have HV2 : (fD, eD) = (([] : List UInt8), (2 : Int)) := by rw [HP.out, if_neg (by simp)]
      obtain ⟨rfl, rfl⟩ := Prod.mk.inj HV2
      obtain ⟨rfl, h⟩ := Prod.mk.inj HV
      obtain ⟨rfl, rfl⟩ := Prod.mk.inj h
      obtain rfl : nd = 0 := HND.out
      obtain rfl : nz = 0 := HNZ.out
      have HSE := Lib.hid (fun W B c' (hd : Ds W (.slice B 0 c') []) => show Calls Try.prog 16 #[.agg #[.int .i64 0, .slice B 0 c'], .agg #[.int .i64 0, .slice none 0 0]] W fun e w' => e = .returned (.bool true) ∧ Fr0 W w' from rsame_any (b := 0) (b2 := 0) hd (Ds.nil W))
      clear HP HV HV2 h HPA HC1 HC2 BN1 BN2 HRS0 HRF0 HRA0
      go_wp2_with (first
        | (have _q := F11; go_at_call 14; refine (HRM1.out _ F11.out).mono ?_; rintro e w12 ⟨rfl, hf⟩; have F12 := Lib.hid (Fr0.trans F11.out hf); have DZ12 := Lib.hid ((DZ11.out).fr0 hf); have Z12 := Lib.hid ((Z11.out).fr0 hf); have z0 := (Z12.out).cell 0 rfl; have z1 := (Z12.out).cell 1 rfl; clear hf)
        | (go_at_call 14; refine (HRM1.out _ F.out).mono ?_; rintro e w11 ⟨rfl, hf⟩; have F11 := Lib.hid (Fr0.trans F.out hf); have X11 := Lib.hid ((X.out).fr0 hf); have DZ11 := Lib.hid ((DZ.out).fr0 hf); have Z11 := Lib.hid ((Z.out).fr0 hf); have e0 := (X11.out).cell 0 rfl; have e1 := (X11.out).cell 1 rfl; clear hf)
        | (go_at_call 16; refine (HSE.out _ _ _ DZ12.out).mono ?_; rintro e w13 ⟨rfl, hf⟩; have F13 := Lib.hid (Fr0.trans F12.out hf); clear hf))
      go_ret
      exact ⟨rfl, F13.out⟩
    obtain ⟨i1, i2, i3, -⟩ := (BN1.out) rfl
    have K1 := Lib.hid (HC1.out rfl)
    have w1 : IntKind.i64.wrap (b + (n : Int)) = b + (n : Int) := by rw [IntKind.wrap_i64]; omega
    have HRA := Lib.hid (fun W hf => HRA0.out W rfl HN3.out hf)
    try simp only [AddOut] at HRA
    rw [← HNZ.out] at HRA
    clear BN1 HC1 HPA HRA0
    cases m2
    case false =>
      have HV2 : (fD, eD) = (([] : List UInt8), (2 : Int)) := by rw [HP.out, if_neg (by simp)]
      obtain ⟨rfl, rfl⟩ := Prod.mk.inj HV2
      obtain rfl : nd = 0 := HND.out
      clear HP HV2 HC2 BN2 HRS0 HRF0
      go_upto_region 15 with (first
        | (have _q := F11; go_at_call 14; refine (HRM2.out _ F11.out).mono ?_; rintro e w12 ⟨rfl, hf⟩; have F12 := Lib.hid (Fr0.trans F11.out hf); have X12 := Lib.hid ((X11.out).fr0 hf); have DZ12 := Lib.hid ((DZ11.out).fr0 hf); have Z12 := Lib.hid ((Z11.out).fr0 hf); have g0 := (X12.out).cell 0 rfl; have g1 := (X12.out).cell 1 rfl; clear hf)
        | (go_at_call 14; refine (HRM1.out _ F.out).mono ?_; rintro e w11 ⟨rfl, hf⟩; have F11 := Lib.hid (Fr0.trans F.out hf); have X11 := Lib.hid ((X.out).fr0 hf); have Y11 := Lib.hid ((Y.out).fr0 hf); have DZ11 := Lib.hid ((DZ.out).fr0 hf); have Z11 := Lib.hid ((Z.out).fr0 hf); have e0 := (Y11.out).cell 0 rfl; have e1 := (Y11.out).cell 1 rfl; clear hf))
      replace F := Lib.hid F12.out
      replace X := Lib.hid X12.out
      replace DZ := Lib.hid DZ12.out
      replace Z := Lib.hid Z12.out
      clear F11 F12 X11 X12 DZ11 DZ12 Z11 Z12 Y11 e0 e1 x0 x1 y0 y1 Y RR
      go_wp2_with (first
        | (go_at_call 14; refine (HRM1.out _ F.out).mono ?_; rintro e w11 ⟨rfl, hf⟩; have F11 := Lib.hid (Fr0.trans F.out hf); have X11 := Lib.hid ((X.out).fr0 hf); have Z11 := Lib.hid ((Z.out).fr0 hf); have DZ11 := Lib.hid ((DZ.out).fr0 hf); have x0 := (X11.out).cell 0 rfl; have x1 := (X11.out).cell 1 rfl; clear hf)
        | (go_at_call 21; refine (HRA.out _ F11.out).mono ?_; rintro e w12 ⟨B12, c12, rfl, hd, hf⟩; have G12 := hf.alloc (.cells #[.int .i64 bz, .slice B12 nz c12] 24); have F12 := Lib.hid (Fr0.trans F11.out G12); have Z12 := Lib.hid ((Z11.out).fr0 G12); have DZ12 := Lib.hid ((DZ11.out).fr0 G12); have DW := Lib.hid ((hd.ds (fun v t h => h.rd)).fr0 ((Fr0.refl w12).alloc (.cells #[.int .i64 bz, .slice B12 nz c12] 24))); have z0 := (Z12.out).cell 0 rfl; have z1 := (Z12.out).cell 1 rfl; clear hf hd G12)
        | (go_at_call 16; refine (HSZ.out _ _ _ _ _ DZ12.out DW.out).mono ?_; rintro e w13 ⟨rfl, hf⟩; have F13' := Lib.hid (Fr0.trans F12.out hf); clear hf))
      go_ret
      exact ⟨rfl, F13'.out⟩
    obtain ⟨j1, j2, j3, -⟩ := (BN2.out) rfl
    have K2 := Lib.hid (HC2.out rfl)
    have w2 : IntKind.i64.wrap (b2 + (n2 : Int)) = b2 + (n2 : Int) := by rw [IntKind.wrap_i64]; omega
    clear BN2 HC2
    by_cases h1 : b + (n : Int) < b2
    · have c1' : decide (b + (n : Int) < b2) = true := by simpa using h1
      have HV2 : (fD, eD) = (([] : List UInt8), (2 : Int)) := by rw [HP.out, if_neg (by rintro ⟨-, -, h5, -⟩; rw [K1.out] at h5; omega)]
      obtain ⟨rfl, rfl⟩ := Prod.mk.inj HV2
      obtain rfl : nd = 0 := HND.out
      clear HP HV2 HRS0 HRF0 h1
      go_upto_region 15 with (first
        | (have _q := F11; go_at_call 14; refine (HRM2.out _ F11.out).mono ?_; rintro e w12 ⟨rfl, hf⟩; have F12 := Lib.hid (Fr0.trans F11.out hf); have X12 := Lib.hid ((X11.out).fr0 hf); have Y12 := Lib.hid ((Y11.out).fr0 hf); have DZ12 := Lib.hid ((DZ11.out).fr0 hf); have Z12 := Lib.hid ((Z11.out).fr0 hf); have g0 := (X12.out).cell 0 rfl; have g1 := (X12.out).cell 1 rfl; have g2 := (Y12.out).cell 0 rfl; have g3 := (Y12.out).cell 1 rfl; clear hf)
        | (go_at_call 14; refine (HRM1.out _ F.out).mono ?_; rintro e w11 ⟨rfl, hf⟩; have F11 := Lib.hid (Fr0.trans F.out hf); have X11 := Lib.hid ((X.out).fr0 hf); have Y11 := Lib.hid ((Y.out).fr0 hf); have DZ11 := Lib.hid ((DZ.out).fr0 hf); have Z11 := Lib.hid ((Z.out).fr0 hf); have e0 := (Y11.out).cell 0 rfl; have e1 := (Y11.out).cell 1 rfl; clear hf))
      replace F := Lib.hid F12.out
      replace X := Lib.hid X12.out
      replace DZ := Lib.hid DZ12.out
      replace Z := Lib.hid Z12.out
      clear F11 F12 X11 X12 DZ11 DZ12 Z11 Z12 Y11 Y12 e0 e1 x0 x1 y0 y1 Y RR
      go_wp2_with (first
        | (go_at_call 14; refine (HRM1.out _ F.out).mono ?_; rintro e w11 ⟨rfl, hf⟩; have F11 := Lib.hid (Fr0.trans F.out hf); have X11 := Lib.hid ((X.out).fr0 hf); have Z11 := Lib.hid ((Z.out).fr0 hf); have DZ11 := Lib.hid ((DZ.out).fr0 hf); have x0 := (X11.out).cell 0 rfl; have x1 := (X11.out).cell 1 rfl; clear hf)
        | (go_at_call 21; refine (HRA.out _ F11.out).mono ?_; rintro e w12 ⟨B12, c12, rfl, hd, hf⟩; have G12 := hf.alloc (.cells #[.int .i64 bz, .slice B12 nz c12] 24); have F12 := Lib.hid (Fr0.trans F11.out G12); have Z12 := Lib.hid ((Z11.out).fr0 G12); have DZ12 := Lib.hid ((DZ11.out).fr0 G12); have DW := Lib.hid ((hd.ds (fun v t h => h.rd)).fr0 ((Fr0.refl w12).alloc (.cells #[.int .i64 bz, .slice B12 nz c12] 24))); have z0 := (Z12.out).cell 0 rfl; have z1 := (Z12.out).cell 1 rfl; clear hf hd G12)
        | (go_at_call 16; refine (HSZ.out _ _ _ _ _ DZ12.out DW.out).mono ?_; rintro e w13 ⟨rfl, hf⟩; have F13' := Lib.hid (Fr0.trans F12.out hf); clear hf))
      go_ret
      exact ⟨rfl, F13'.out⟩
    have c1' : decide (b + (n : Int) < b2) = false := by simpa using h1
    by_cases h4 : b2 + (n2 : Int) < b + (n : Int)
    · have c2'' : decide (b2 + (n2 : Int) < b + (n : Int)) = true := by simpa using h4
      have HV2 : (fD, eD) = (([] : List UInt8), (2 : Int)) := by rw [HP.out, if_neg (by rintro ⟨-, -, -, h5⟩; rw [K1.out, K2.out] at h5; omega)]
      obtain ⟨rfl, rfl⟩ := Prod.mk.inj HV2
      obtain rfl : nd = 0 := HND.out
      clear HP HV2 HRS0 HRF0 h1 h4
      go_upto_region 15 with (first
        | (have _q := F11; go_at_call 14; refine (HRM2.out _ F11.out).mono ?_; rintro e w12 ⟨rfl, hf⟩; have F12 := Lib.hid (Fr0.trans F11.out hf); have X12 := Lib.hid ((X11.out).fr0 hf); have Y12 := Lib.hid ((Y11.out).fr0 hf); have DZ12 := Lib.hid ((DZ11.out).fr0 hf); have Z12 := Lib.hid ((Z11.out).fr0 hf); have g0 := (X12.out).cell 0 rfl; have g1 := (X12.out).cell 1 rfl; have g2 := (Y12.out).cell 0 rfl; have g3 := (Y12.out).cell 1 rfl; clear hf)
        | (go_at_call 14; refine (HRM1.out _ F.out).mono ?_; rintro e w11 ⟨rfl, hf⟩; have F11 := Lib.hid (Fr0.trans F.out hf); have X11 := Lib.hid ((X.out).fr0 hf); have Y11 := Lib.hid ((Y.out).fr0 hf); have DZ11 := Lib.hid ((DZ.out).fr0 hf); have Z11 := Lib.hid ((Z.out).fr0 hf); have e0 := (Y11.out).cell 0 rfl; have e1 := (Y11.out).cell 1 rfl; clear hf))
      replace F := Lib.hid F12.out
      replace X := Lib.hid X12.out
      replace DZ := Lib.hid DZ12.out
      replace Z := Lib.hid Z12.out
      clear F11 F12 X11 X12 DZ11 DZ12 Z11 Z12 Y11 Y12 e0 e1 x0 x1 y0 y1 Y RR
      go_wp2_with (first
        | (go_at_call 14; refine (HRM1.out _ F.out).mono ?_; rintro e w11 ⟨rfl, hf⟩; have F11 := Lib.hid (Fr0.trans F.out hf); have X11 := Lib.hid ((X.out).fr0 hf); have Z11 := Lib.hid ((Z.out).fr0 hf); have DZ11 := Lib.hid ((DZ.out).fr0 hf); have x0 := (X11.out).cell 0 rfl; have x1 := (X11.out).cell 1 rfl; clear hf)
        | (go_at_call 21; refine (HRA.out _ F11.out).mono ?_; rintro e w12 ⟨B12, c12, rfl, hd, hf⟩; have G12 := hf.alloc (.cells #[.int .i64 bz, .slice B12 nz c12] 24); have F12 := Lib.hid (Fr0.trans F11.out G12); have Z12 := Lib.hid ((Z11.out).fr0 G12); have DZ12 := Lib.hid ((DZ11.out).fr0 G12); have DW := Lib.hid ((hd.ds (fun v t h => h.rd)).fr0 ((Fr0.refl w12).alloc (.cells #[.int .i64 bz, .slice B12 nz c12] 24))); have z0 := (Z12.out).cell 0 rfl; have z1 := (Z12.out).cell 1 rfl; clear hf hd G12)
        | (go_at_call 16; refine (HSZ.out _ _ _ _ _ DZ12.out DW.out).mono ?_; rintro e w13 ⟨rfl, hf⟩; have F13' := Lib.hid (Fr0.trans F12.out hf); clear hf))
      go_ret
      exact ⟨rfl, F13'.out⟩
    have c2'' : decide (b2 + (n2 : Int) < b + (n : Int)) = false := by simpa using h4
    have HV2 : (fD, eD) = (formsD LS, (0 : Int)) := by rw [HP.out, if_pos ⟨rfl, rfl, by rw [K1.out]; omega, by rw [K1.out, K2.out]; omega⟩, HLS.out, K1.out]
    obtain ⟨hfd, rfl⟩ := Prod.mk.inj HV2
    have HRS1 := Lib.hid (fun W hf => HRS0.out W rfl hf)
    have HRF1 := Lib.hid (fun W B c' hd => HRF0.out W B c' rfl hd)
    rw [← hfd] at HRF1
    rw [← HND.out] at HRF1
    have HFL := Lib.hid HND.out.symm
    clear HP HV2 HRS0 HRF0 h1 h4 hfd
    go_upto_region 13 with (first
      | (have _q := F11; go_at_call 14; refine (HRM2.out _ F11.out).mono ?_; rintro e w10 ⟨rfl, hf⟩; have F12 := Lib.hid (Fr0.trans F11.out hf); have X12 := Lib.hid ((X11.out).fr0 hf); have Y12 := Lib.hid ((Y11.out).fr0 hf); have DZ12 := Lib.hid ((DZ11.out).fr0 hf); have Z12 := Lib.hid ((Z11.out).fr0 hf); have RR12 := Lib.hid ((RR11.out).fr0 hf); have g0 := (X12.out).cell 0 rfl; have g1 := (X12.out).cell 1 rfl; have g2 := (Y12.out).cell 0 rfl; have g3 := (Y12.out).cell 1 rfl; clear hf)
      | (go_at_call 14; refine (HRM1.out _ F.out).mono ?_; rintro e w11 ⟨rfl, hf⟩; have F11 := Lib.hid (Fr0.trans F.out hf); have X11 := Lib.hid ((X.out).fr0 hf); have Y11 := Lib.hid ((Y.out).fr0 hf); have DZ11 := Lib.hid ((DZ.out).fr0 hf); have Z11 := Lib.hid ((Z.out).fr0 hf); have RR11 := Lib.hid ((RR.out).fr0 hf); have e0 := (Y11.out).cell 0 rfl; have e1 := (Y11.out).cell 1 rfl; clear hf))
    replace F := Lib.hid ((F12.out).drew)
    replace X := Lib.hid ((X12.out).drew)
    replace Y := Lib.hid ((Y12.out).drew)
    replace DZ := Lib.hid (show Ds w10.drew _ lz from (DZ12.out).fr0 ((Fr0.refl w10).drew))
    replace Z := Lib.hid ((Z12.out).drew)
    have HCV := Lib.hid (fun W (hf : Fr0 w10.drew W) => conv_ownN HFL.out ((RR12.out).fr0 (Fr0.trans ((Fr0.refl w10).drew) hf)))
    have HRS := Lib.hid (fun W (hf : Fr0 w10.drew W) => HRS1.out W (Fr0.trans F.out hf))
    have HRF := Lib.hid (fun W B c' hd => HRF1.out W B c' hd)
    clear F11 F12 X11 X12 Y11 Y12 DZ11 DZ12 Z11 Z12 RR11 RR12 RR e0 e1 g0 g1 g2 g3 x0 x1 y0 y1 HRS1 HRF1
    refine wp_region_held_drew (S := (fun W => Fr0 w10.drew W)) (by kernel_rfl) (Fr0.refl _) (fun hHeld => ?_)
    generalize w10.drew = wr at *
    have U0 := Lib.hid (Fr0.refl wr)
    have _hI : True := trivial
    clear _hI
    refine takeH (i := 0) rfl (by kernel_rfl) (by kernel_rfl) (by kernel_rfl) (fun _ _ _ h => h) (.inl ⟨rfl, fun W hW => (by go_simp; try rfl)⟩) (Fr0.refl wr) ?_
    try simp only [Act.put, List.setIfInBounds_toArray, List.set_cons_zero, List.set_cons_succ]
    have _hI : True := trivial
    clear _hI
    refine takeH (i := 1) rfl (by kernel_rfl) (by kernel_rfl) (by kernel_rfl) (fun _ _ _ h => h) (v := .bool false) (.inl ⟨rfl, fun W hW => (by go_simp; try rfl)⟩) (Fr0.refl wr) ?_
    try simp only [Act.put, List.setIfInBounds_toArray, List.set_cons_zero, List.set_cons_succ]
    have _hI : True := trivial
    clear _hI
    refine takeH (i := 2) rfl (by kernel_rfl) (by kernel_rfl) (by kernel_rfl) (fun _ _ _ h => h) (.inl ⟨rfl, fun W hW => (by go_simp; try rfl)⟩) (Fr0.refl wr) ?_
    try simp only [Act.put, List.setIfInBounds_toArray, List.set_cons_zero, List.set_cons_succ]
    have _hI : True := trivial
    clear _hI
    refine takeH (i := 3) rfl (by kernel_rfl) (by kernel_rfl) (by kernel_rfl) (fun _ _ _ h => h) (.inl ⟨rfl, fun W hW => (by go_simp; try rfl)⟩) (Fr0.refl wr) ?_
    try simp only [Act.put, List.setIfInBounds_toArray, List.set_cons_zero, List.set_cons_succ]
    have _hI : True := trivial
    clear _hI
    refine takeH (i := 4) rfl (by kernel_rfl) (by kernel_rfl) (by kernel_rfl) (fun _ _ _ h => h) (v := .string (str fD)) (.inl ⟨rfl, fun W hW => (by have cv := HCV.out W hW; go_simp; try rfl)⟩) (Fr0.refl wr) ?_
    try simp only [Act.put, List.setIfInBounds_toArray, List.set_cons_zero, List.set_cons_succ]
    have _hI : True := trivial
    clear _hI
    refine takeH (i := 5) rfl (by kernel_rfl) (by kernel_rfl) (by kernel_rfl) (fun _ _ _ h => h) (yieldsW_load_blk rfl 24 _ rfl (w.heap.size + 1) rfl 24 #[.int .i64 b2, .slice A2 n2 c2] (fun W hW => (Y.out).fr0 hW) _ Try.underlying24 rfl (by kernel_rfl)) (Fr0.refl wr) ?_
    try simp only [Act.put, List.setIfInBounds_toArray, List.set_cons_zero, List.set_cons_succ]
    have _hI : True := trivial
    clear _hI
    refine takeH (i := 6) rfl (by kernel_rfl) (by kernel_rfl) (by kernel_rfl) (fun _ _ _ h => h) (.inl ⟨rfl, fun W hW => (by go_simp; try rfl)⟩) (Fr0.refl wr) ?_
    try simp only [Act.put, List.setIfInBounds_toArray, List.set_cons_zero, List.set_cons_succ]
    have _hI : True := trivial
    clear _hI
    refine takeH (i := 7) rfl (by kernel_rfl) (by kernel_rfl) (by kernel_rfl) (fun _ _ _ h => h) (v := .int .i64 b) (.inl ⟨rfl, fun W hW => (by have f := ((X.out).fr0 hW).cell 0 rfl; go_simp; try rfl)⟩) (Fr0.refl wr) ?_
    try simp only [Act.put, List.setIfInBounds_toArray, List.set_cons_zero, List.set_cons_succ]
    have _hI : True := trivial
    clear _hI
    refine takeH (i := 8) rfl (by kernel_rfl) (by kernel_rfl) (by kernel_rfl) (fun _ _ _ h => h) (.inl ⟨rfl, fun W hW => (by go_simp; try rfl)⟩) (Fr0.refl wr) ?_
    try simp only [Act.put, List.setIfInBounds_toArray, List.set_cons_zero, List.set_cons_succ]
    have _hI : True := trivial
    clear _hI
    refine takeH (i := 9) rfl (by kernel_rfl) (by kernel_rfl) (by kernel_rfl) (fun _ _ _ h => h) (v := .slice A n c) (.inl ⟨rfl, fun W hW => (by have f := ((X.out).fr0 hW).cell 1 rfl; go_simp; try rfl)⟩) (Fr0.refl wr) ?_
    try simp only [Act.put, List.setIfInBounds_toArray, List.set_cons_zero, List.set_cons_succ]
    have _hI : True := trivial
    clear _hI
    refine takeH (i := 10) rfl (by kernel_rfl) (by kernel_rfl) (by kernel_rfl) (fun _ _ _ h => h) (v := .int .i64 (n : Int)) (.inl ⟨rfl, fun W hW => (by go_simp; try rfl)⟩) (Fr0.refl wr) ?_
    try simp only [Act.put, List.setIfInBounds_toArray, List.set_cons_zero, List.set_cons_succ]
    have _hI : True := trivial
    clear _hI
    refine takeH (i := 11) rfl (by kernel_rfl) (by kernel_rfl) (by kernel_rfl) (fun _ _ _ h => h) (v := .int .i64 (b + (n : Int))) (.inl ⟨rfl, fun W hW => (by go_simp; try rfl)⟩) (Fr0.refl wr) ?_
    try simp only [Act.put, List.setIfInBounds_toArray, List.set_cons_zero, List.set_cons_succ]
    have _hI : True := trivial
    clear _hI
    refine wpAnyH_ready (rs := [12]) (by kernel_rfl) (by simp) (consG rfl rfl (fun K hK => ?_) AllReadyH.nil)
    have _hI : True := trivial
    clear _hI
    go_simp
    refine (HRS.out _ U0.out).mono ?_
    rintro e Wn101 ⟨B6, c6, rfl, hd, hf⟩
    have D6 := Lib.hid hd
    have U101 := Lib.hid (Fr0.trans U0.out hf)
    clear hf hd
    refine hK.out _ _ U101.out ?_
    clear hK
    try simp only [Act.put, List.setIfInBounds_toArray, List.set_cons_zero, List.set_cons_succ]
    have _hI : True := trivial
    clear _hI
    refine wpAnyH_ready (rs := [13]) (by kernel_rfl) (by simp) (consG rfl rfl (fun K hK => ?_) AllReadyH.nil)
    have _hI : True := trivial
    clear _hI
    go_simp
    refine (HRF.out _ _ _ D6.out).mono ?_
    rintro e Wn102 ⟨B7, c7, rfl, hr, hf⟩
    have cv7 := conv_ownN HFL.out hr
    have U102 := Lib.hid (Fr0.trans U101.out hf)
    clear hf hr
    refine hK.out _ _ U102.out ?_
    clear hK
    try simp only [Act.put, List.setIfInBounds_toArray, List.set_cons_zero, List.set_cons_succ]
    have _hI : True := trivial
    clear _hI
    refine wpAnyH_ready (rs := [14]) (by kernel_rfl) (by simp) (consG rfl rfl (fun K hK => ?_) AllReadyH.nil)
    have _hI : True := trivial
    clear _hI
    go_simp
    refine hK.out _ _ U102.out ?_
    clear hK
    try simp only [Act.put, List.setIfInBounds_toArray, List.set_cons_zero, List.set_cons_succ]
    have _hI : True := trivial
    clear _hI
    refine takeH (i := 15) rfl (by kernel_rfl) (by kernel_rfl) (by kernel_rfl) (fun _ _ _ h => h) (v := .bool false) (.inl ⟨rfl, fun W hW => (by have t := strI fD; go_simp; try rfl)⟩) U102.out ?_
    try simp only [Act.put, List.setIfInBounds_toArray, List.set_cons_zero, List.set_cons_succ]
    have _hI : True := trivial
    clear _hI
    refine takeH (i := 16) rfl (by kernel_rfl) (by kernel_rfl) (by kernel_rfl) (fun _ _ _ h => h) (.inl ⟨rfl, fun W hW => (by go_simp; try rfl)⟩) U102.out ?_
    try simp only [Act.put, List.setIfInBounds_toArray, List.set_cons_zero, List.set_cons_succ]
    refine wpAnyH_done (by kernel_rfl) ?_ _
    have F13 := Lib.hid (Fr0.trans F.out U102.out)
    have G13 := Lib.hid U102.out
    replace F := Lib.hid F13.out
    replace X := Lib.hid ((X.out).fr0 G13.out)
    replace Z := Lib.hid ((Z.out).fr0 G13.out)
    replace DZ := Lib.hid ((DZ.out).fr0 G13.out)
    clear F13 G13 HRS HRF HCV
    have x0 := (X.out).cell 0 rfl
    have x1 := (X.out).cell 1 rfl
    go_wp2_with (first
      | (go_at_call 14; refine (HRM1.out _ F.out).mono ?_; rintro e w11 ⟨rfl, hf⟩; have F11 := Lib.hid (Fr0.trans F.out hf); have X11 := Lib.hid ((X.out).fr0 hf); have Z11 := Lib.hid ((Z.out).fr0 hf); have DZ11 := Lib.hid ((DZ.out).fr0 hf); have x0 := (X11.out).cell 0 rfl; have x1 := (X11.out).cell 1 rfl; clear hf)
      | (go_at_call 21; refine (HRA.out _ F11.out).mono ?_; rintro e w12 ⟨B12, c12, rfl, hd, hf⟩; have G12 := hf.alloc (.cells #[.int .i64 bz, .slice B12 nz c12] 24); have F12 := Lib.hid (Fr0.trans F11.out G12); have Z12 := Lib.hid ((Z11.out).fr0 G12); have DZ12 := Lib.hid ((DZ11.out).fr0 G12); have DW := Lib.hid ((hd.ds (fun v t h => h.rd)).fr0 ((Fr0.refl w12).alloc (.cells #[.int .i64 bz, .slice B12 nz c12] 24))); have z0 := (Z12.out).cell 0 rfl; have z1 := (Z12.out).cell 1 rfl; clear hf hd G12)
      | (go_at_call 16; refine (HSZ.out _ _ _ _ _ DZ12.out DW.out).mono ?_; rintro e w13 ⟨rfl, hf⟩; have F13' := Lib.hid (Fr0.trans F12.out hf); clear hf))
    go_ret
    exact ⟨rfl, F13'.out⟩
namespace InputSteps
open Go.ChangeShapes Go.WideShapes Go.ChangeAt
open Go.ChangeMaps (open_string shut_string)

theorem own : ownKnob Try.prog.godebug = none := by kernel_rfl
theorem laidOut : laidOutB Try.prog = true := by kernel_rfl

set_option maxRecDepth 100000 in
theorem lifted (os : Os) (started : os.Started) (H : Type) (enc : TypeId × Value → H) :
    ReturnsInHanded {} Try.checked os 4 .any (Rows.inputStepsSpec.pre6 enc Try.prog Try.f4 Rows.inputStepsRow.domain false) (Rows.inputStepsSpec.post enc Try.prog Try.f4 false true false false) := by
  refine returnsInHanded_of_change (C := Try.checked) own started (by kernel_rfl) Try.func4
    (ChangeSpec.witness6 (enc := enc) (C := Try.checked) false ⟨#[], #[.agg #[.int .i64 0, .slice none 0 0], .agg #[.int .i64 0, .slice none 0 0], .slice none 0 0], []⟩ 8 (by kernel_rfl) (by kernel_rfl) (by kernel_rfl) (by kernel_rfl)) ?_
  intro W base args ds gs before hval0 hW hcnd _
  have hval : ∀ (j : Nat) t v, Try.f4.params[j]? = some t → args[j]? = some v → Value.okWide Try.prog W .any base t v := hval0
  have hW' := hW
  obtain ⟨p, q, hA0, hV, rfl, hfz, hnd⟩ := hW
  have hA : DataW.TrodAll enc Try.prog W 0 (fun _ => true) true Try.f4.params.toList args.toList ds p := hA0
  rw [Try.params4] at hA hval
  obtain ⟨v0, vs0, d0', ds0, p0, q0, hargs, rfl, rfl, h0, r0⟩ := trodAll_cons hA
  obtain ⟨v1, vs1, d1', ds1, p1, q1, rfl, rfl, rfl, h1, r1⟩ := trodAll_cons r0
  obtain ⟨v2, vs2, d2', ds2, p2, q2, rfl, rfl, rfl, h2, r2⟩ := trodAll_cons r1
  obtain ⟨rfl, rfl, rfl⟩ := trodAll_nil r2
  obtain rfl : args = #[v0, v1, v2] := by cases args; simp_all
  obtain ⟨rfl, rfl⟩ := trodVars_none hV
  have k0 := h0
  have lt0 : ∀ x ∈ p0, x.block < W.heap.size := by obtain ⟨m, hm⟩ := k0; exact DataW.trod_lt m _ _ _ hm
  obtain ⟨b0, sv0, l0, rfl, hy0, hb0⟩ := arg_stream (hval 0 24 v0 rfl rfl) h0
  have k1 := h1
  have lt1 : ∀ x ∈ p1, x.block < W.heap.size := by obtain ⟨m, hm⟩ := k1; exact DataW.trod_lt m _ _ _ hm
  obtain ⟨b1, sv1, l1, rfl, hy1, hb1⟩ := arg_stream (hval 1 24 v1 rfl rfl) h1
  have k2 := h2
  have lt2 : ∀ x ∈ p2, x.block < W.heap.size := by obtain ⟨m, hm⟩ := k2; exact DataW.trod_lt m _ _ _ hm
  obtain ⟨A2, n2, c2, rfl⟩ := okWide_slice Try.underlying26 (hval 2 26 v2 rfl rfl)
  obtain ⟨fuel2, hf2⟩ := h2
  obtain ⟨d2, hy2⟩ := arg_bytes Try.underlying26 Try.underlying5 (by kernel_rfl) hf2
  clear hA0 hval0
  refine (inputSteps_any hy0 hy1 hy2).mono fun e W' ⟨he, hfr⟩ => ?_
  have bel : Below W.heap.size W W' := Fr0.below hfr
  subst he
  exact ⟨_, rfl, _, _, _, [], _, [], hW', trodAll_mk1 (shut_bool Try.underlying4 _), (trodAll_cons_mk (Below.trod laidOut (by kernel_rfl) (of_decide_eq_true (by kernel_rfl)) k0 bel lt0) (trodAll_cons_mk (Below.trod laidOut (by kernel_rfl) (of_decide_eq_true (by kernel_rfl)) k1 bel lt1) (trodAll_cons_mk (Below.trod laidOut (by kernel_rfl) (of_decide_eq_true (by kernel_rfl)) k2 bel lt2) trodAll_mk0))), rfl, bel.frame _, fun h => by cases h⟩

theorem over : Rows.inputStepsRow.holds Try.pinned (OpenSpec.ofChange Rows.inputStepsSpec) :=
  OpenClaim.holds_of_wide 4 Try.f4 rfl rfl rfl rfl rfl rfl rfl ⟨rfl, rfl, rfl, rfl, rfl⟩ rfl rfl rfl rfl rfl (by kernel_rfl) Try.func4 (by kernel_rfl)
    (of_decide_eq_true (by kernel_rfl)) (by unfold Func.isWrapper; first | (rw [if_pos (by decide +kernel)]; kernel_rfl) | (rw [if_neg (by decide +kernel)]; exact ⟨rfl, rfl⟩))
    (fun os started H enc _ => lifted os started H enc)

theorem proved : Rows.InputStepsSaid := over
#print axioms proved
end InputSteps
end Go.Proofs.Ytcbllkkbpjobpaa
