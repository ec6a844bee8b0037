/- InputFollows: deeds that are added, one after the other, come to another stream under their numbers, each just once, in whatever steps they are told, and however often the first one is cut: the law returns true for any deeds and any list of numbers. No condition. -/
import Derived.Test.YtcbllkkbpjobpaaInApply
import Derived.Test.YtcbllkkbpjobpaaOwn
import Derived.Lib.SlBytesConst
import Derived.Test.YtcbllkkbpjobpaaInLaw
import Derived.Test.YtcbllkkbpjobpaaInAdd
import Derived.Test.YtcbllkkbpjobpaaInCut
import Derived.Test.YtcbllkkbpjobpaaArgsOf
import Derived.Test.YtcbllkkbpjobpaaStepsG
set_option linter.unusedVariables false
set_option linter.unusedSimpArgs false
namespace Go.Proofs.Ytcbllkkbpjobpaa
open Go.RowKit

theorem form_lt (n : Nat) (h : n < 128) : form n = [UInt8.ofNat n] := by
  unfold form
  rw [show n / 128 = 0 by omega, hi_zero, show n % 128 = n by omega]; rfl
def d0 : Dd := ⟨1, [97, 98], 0, 0⟩
theorem f0 : formD d0 = [1, 2, 97, 98] := by
  unfold formD d0 textForm
  simp only [if_true]
  rw [show (1 : Int).toNat = 1 from rfl, form_lt 1 (by decide), show ([97, 98] : List UInt8).length = 2 from rfl, form_lt 2 (by decide)]
  rfl
theorem kA : addP 0 [] d0 = (0, [d0], 0) := by decide
theorem kC : cutP 0 [d0] 1 = (1, [], 0) := by decide
theorem kD : diffP 0 [] 0 [d0] = ([1, 2, 97, 98], 0) := by
  have h : diffP 0 [] 0 [d0] = (formsD (sinceL 0 [d0] (cntS 0 [])), 0) := by unfold diffP; rw [if_pos (by decide)]
  rw [h, show sinceL 0 [d0] (cntS 0 []) = [d0] by decide]
  unfold formsD
  simp [f0]
theorem kR : dRead [3, 4] = some [⟨3, [], 0, 0⟩, ⟨4, [], 0, 0⟩] := by decide
theorem kP : applyP 0 [] [3, 4] = (0, [⟨3, [], 0, 0⟩, ⟨4, [], 0, 0⟩], 0) := by
  unfold applyP
  rw [kR]
  decide
theorem k1_any (w : World) : Calls Try.prog 11 #[.agg #[.int .i64 0, .slice none 0 0], .agg #[.int .i64 1, .slice (some ⟨w.heap.size, 0, none⟩) 2 2, .int .i64 0, .int .i64 0]] (w.alloc (.cells #[.int .u8 97, .int .u8 98] 5 (2, 3))) fun e w' =>
    ∃ B c, e = .returned (.tuple #[.agg #[.int .i64 0, .slice B 1 c], .int .i64 0]) ∧ Ds w' (.slice B 1 c) [d0] ∧ Fr0 w w' := by
  have h := add_any (b := 0) (A := none) (c := 0) (l := []) (d := d0) (Bd := some ⟨w.heap.size, 0, none⟩) (ed := 2) (Ds.nil (w.alloc (.cells #[.int .u8 97, .int .u8 98] 5 (2, 3)))) (lit_bytes w 5 [97, 98] (by decide) (2, 3))
  refine Calls.mono h ?_
  rintro e w' ⟨B, c, he, hd, hf⟩
  rw [kA] at he hd
  exact ⟨B, c, he, hd.ds (fun v t h => h.rd), Fr0.trans ((Fr0.refl w).alloc _) hf⟩
theorem k2_any {B : Option Addr} {c : Nat} {w : World} (h : Ds w (.slice B 1 c) [d0]) : Calls Try.prog 12 #[.agg #[.int .i64 0, .slice B 1 c], .int .i64 1] w fun e w' => ∃ B' c', e = .returned (.tuple #[.agg #[.int .i64 1, .slice B' 0 c'], .int .i64 0]) ∧ Fr0 w w' := by
  refine (cut_any (b := 0) (m := 1) h (by decide)).mono ?_
  rintro e w' ⟨B', c', he, hd, hf⟩
  rw [kC] at he
  exact ⟨B', c', he, hf⟩
theorem k3_any {B : Option Addr} {c : Nat} {w : World} (h : Ds w (.slice B 1 c) [d0]) : Calls Try.prog 18 #[.agg #[.int .i64 0, .slice none 0 0], .agg #[.int .i64 0, .slice B 1 c]] w fun e w' => ∃ B' c', e = .returned (.tuple #[.slice B' 4 c', .int .i64 0]) ∧ RdB w' (.slice B' 4 c') [1, 2, 97, 98] ∧ Fr0 w w' := by
  refine (diff_any (b1 := 0) (b2 := 0) (l1 := []) (Ds.nil w) h).mono ?_
  rintro e w' ⟨B', c', he, hd, hf⟩
  rw [kD] at he hd
  exact ⟨B', c', he, hd, hf⟩
theorem k4_any (w : World) : Calls Try.prog 19 #[.agg #[.int .i64 0, .slice none 0 0], .slice (some ⟨w.heap.size, 0, none⟩) 2 2] (w.alloc (.cells #[.int .u8 3, .int .u8 4] 5)) fun e w' =>
    ∃ B c, e = .returned (.tuple #[.agg #[.int .i64 0, .slice B 2 c], .int .i64 0]) ∧ Ds w' (.slice B 2 c) [⟨3, [], 0, 0⟩, ⟨4, [], 0, 0⟩] ∧ Fr0 w w' := by
  have h := apply_any (b := 0) (A := none) (c := 0) (l := []) (D := [3, 4]) (Ds.nil (w.alloc (.cells #[.int .u8 3, .int .u8 4] 5))) (lit_bytes w 5 [3, 4] (by decide) (0, 0)) (by decide)
  refine Calls.mono h ?_
  rintro e w' ⟨B, c, he, hd, hf⟩
  rw [kP] at he hd
  exact ⟨B, c, he, hd.ds (fun v t h => h.rd), Fr0.trans ((Fr0.refl w).alloc _) hf⟩
theorem k5_any {B : Option Addr} {c : Nat} {w : World} (h : Ds w (.slice B 1 c) [d0]) : Calls Try.prog 23 #[.agg #[.int .i64 0, .slice B 1 c]] w fun e w' => e = .returned (.int .i64 1) ∧ Fr0 w w' := count_any (b := 0) h
set_option maxHeartbeats 4000000 in
set_option maxRecDepth 100000 in
theorem known21_any (w : World) : Calls Try.prog 8 #[] w fun e w' => e = .returned (.bool true) ∧ Fr0 w w' := by
  have hcv := fun (w : World) (C : Array Value) (n c : Nat) => Lib.run_convert_bytes_const (P := Try.prog) w 26 5 C n c Try.underlying26 Try.underlying5
  have q1 : ((str [1, 2, 97, 98]).toList == [1, 2, 97, 98]) = true := by rw [ByteArray.toList_eq]; rfl
  go_enter Try.func8, Try.ntmps8
  go_wp2_with (first
    | (go_at_call 11; refine (k1_any w).mono ?_; rintro e w1 ⟨B1, c1, rfl, hd, hf⟩; have F1 := Lib.hid (hf.alloc (.cells #[.int .i64 0, .slice B1 1 c1] 24)); have D1 := Lib.hid (hd.fr0 ((Fr0.refl w1).alloc (.cells #[.int .i64 0, .slice B1 1 c1] 24))); have X1 := Lib.hid (Blk.new w1 #[.int .i64 0, .slice B1 1 c1] 24); clear hd hf)
    | (go_at_call 12; refine (k2_any D1.out).mono ?_; rintro e w2 ⟨B2, c2, rfl, hf⟩; have G2 := hf.alloc (.cells #[.int .i64 1, .slice B2 0 c2] 24); have F2 := Lib.hid (Fr0.trans F1.out G2); have D2 := Lib.hid ((D1.out).fr0 G2); have X2 := Lib.hid ((X1.out).fr0 G2); have Y2 := Lib.hid (Blk.new w2 #[.int .i64 1, .slice B2 0 c2] 24); have s0 := ((X1.out).fr0 G2).cell 0 rfl; have s1 := ((X1.out).fr0 G2).cell 1 rfl; clear hf G2)
    | (go_at_call 18; refine (k3_any D2.out).mono ?_; rintro e w3 ⟨B3, c3, rfl, hr, hf⟩; have F3 := Lib.hid (Fr0.trans F2.out hf); have D3 := Lib.hid ((D2.out).fr0 hf); have X3 := Lib.hid ((X2.out).fr0 hf); have Y3 := Lib.hid ((Y2.out).fr0 hf); have R3 := Lib.hid hr; clear hf hr)
    | (go_at_call 19; refine (k4_any w3).mono ?_; rintro e w4 ⟨B4, c4, rfl, hd, hf⟩; have G4 := hf.alloc (.cells #[.int .i64 0, .slice B4 2 c4] 24); have F4 := Lib.hid (Fr0.trans F3.out G4); have D4 := Lib.hid ((D3.out).fr0 G4); have X4 := Lib.hid ((X3.out).fr0 G4); have Y4 := Lib.hid ((Y3.out).fr0 G4); have R4 := Lib.hid ((R3.out).fr0 G4); have Z4 := Lib.hid (Blk.new w4 #[.int .i64 0, .slice B4 2 c4] 24); have E4 := Lib.hid (hd.fr0 ((Fr0.refl w4).alloc (.cells #[.int .i64 0, .slice B4 2 c4] 24))); have u0 := (X4.out).cell 0 rfl; have u1 := (X4.out).cell 1 rfl; clear hf hd G4)
    | (go_at_call 23; refine (k5_any D4.out).mono ?_; rintro e w5 ⟨rfl, hf⟩; have F5 := Lib.hid (Fr0.trans F4.out hf); have v0 := ((Y4.out).fr0 hf).cell 0 rfl; have v1 := ((Y4.out).fr0 hf).cell 1 rfl; have v2 := ((Z4.out).fr0 hf).cell 1 rfl; have hcv3 := conv_ownN (n := 4) rfl ((R4.out).fr0 hf); obtain ⟨gE, oE, BE, eE, rfl, hlt, -, t0, -, -, -, -⟩ := ((E4.out).fr0 hf).cell (i := 1) (by decide); replace t0 : w5.cell? ⟨gE, oE + 4, none⟩ = some (.int .i64 4) := t0; clear hf))
  go_ret
  exact ⟨rfl, F5.out⟩
end Go.Proofs.Ytcbllkkbpjobpaa
set_option linter.unusedVariables false
namespace Go.Proofs.Ytcbllkkbpjobpaa
open Go.RowKit

theorem rNum_form (n : Nat) (hn : n < 18446744073709551616) (r : List UInt8) : rNum (form n ++ r) 0 = (n, r, 0) := by
  have h := rd_form n hn r
  have hp := form_pos n
  unfold rNum rd
  rw [h]
  rw [if_neg (by simp), if_neg (by simp only; omega)]
  simp
theorem rText_form (t r : List UInt8) (ht : t.length ≤ 16) : rText (textForm t ++ r) 0 16 = (t, r, 0) := by
  have h := rd_form t.length (by omega) (t ++ r)
  have hp := form_pos t.length
  have e : textForm t ++ r = form t.length ++ (t ++ r) := by simp [textForm]
  have ht1 : tStep (textForm t ++ r) 16 = ((form t.length).length + t.length, 0, (form t.length).length) := by
    unfold tStep rd
    rw [e, h]
    simp only
    rw [if_neg (by omega), if_neg (by omega), if_neg (by simp)]
  unfold rText
  rw [if_neg (by simp), ht1]
  simp only
  rw [if_neg (by simp), e]
  congr 1
  · rw [show (form t.length).length + t.length = (form t.length ++ t).length by simp, ← List.append_assoc, List.take_left, List.drop_left]
  · rw [show (form t.length).length + t.length = (form t.length ++ t).length by simp, ← List.append_assoc, List.drop_left]
theorem rawD_form {x : Dd} (h : mayD x = true) (r : List UInt8) : rawD (formD x ++ r) = (x, r, 0) := by
  obtain ⟨k, t, a, b⟩ := x
  have hc := mayD_cases h
  simp only at hc
  rcases hc with ⟨rfl, h2, h3, rfl, rfl⟩ | ⟨rfl, ⟨h2, h3⟩, ⟨h4, h5⟩, rfl⟩ | ⟨h1, rfl, rfl, rfl⟩
  · have e : formD ⟨1, t, 0, 0⟩ ++ r = form 1 ++ (textForm t ++ r) := by rw [show formD ⟨1, t, 0, 0⟩ = form 1 ++ textForm t from rfl, List.append_assoc]
    have h0 := rNum_form 1 (by decide) (textForm t ++ r)
    have h4 := rText_form t r h3
    unfold rawD
    rw [e, h0]
    simp [h4]
  · have e : formD ⟨2, [], a, b⟩ ++ r = form 2 ++ (form a.toNat ++ (form b.toNat ++ r)) := by rw [show formD ⟨2, [], a, b⟩ = form 2 ++ (form a.toNat ++ form b.toNat) from rfl]; simp
    have h0 := rNum_form 2 (by decide) (form a.toNat ++ (form b.toNat ++ r))
    have h6 := rNum_form a.toNat (by omega) (form b.toNat ++ r)
    have h7 := rNum_form b.toNat (by omega) r
    have wa : winN a.toNat = a := by unfold winN; rw [if_pos (by omega), Int.toNat_of_nonneg (by omega)]
    have wb : winN b.toNat = b := by unfold winN; rw [if_pos (by omega), Int.toNat_of_nonneg (by omega)]
    unfold rawD
    rw [e, h0]
    simp [h6, h7, wa, wb]
  · have e : formD ⟨k, [], 0, 0⟩ ++ r = form k.toNat ++ r := by
      unfold formD
      simp only
      rw [if_neg (by omega), if_neg (by omega), List.append_nil]
    have h0 := rNum_form k.toNat (by omega) r
    unfold rawD
    rw [e, h0]
    simp only
    rw [if_neg (by omega), if_neg (by omega), if_pos (by omega), Int.toNat_of_nonneg (by omega)]
theorem formD_pos (x : Dd) : 0 < (formD x).length := by
  unfold formD
  have := form_pos x.kind.toNat
  rw [List.length_append]; omega
theorem dReadF_forms : ∀ (l : List Dd) (f : Nat), (∀ x ∈ l, mayD x = true) → (formsD l).length ≤ f → dReadF f (formsD l) = some l := by
  intro l
  induction l with
  | nil => intro f _ _; show dReadF f [] = some []; exact dReadF_nil f
  | cons x r ih =>
    intro f hm hf
    have e : formsD (x :: r) = formD x ++ formsD r := by simp [formsD]
    have hx := hm x (by simp)
    have hp := formD_pos x
    rw [e] at hf ⊢
    rw [List.length_append] at hf
    have hne : formD x ++ formsD r ≠ [] := fun h => by have h2 := congrArg List.length h; rw [List.length_append, List.length_nil] at h2; omega
    cases f with
    | zero => omega
    | succ f =>
      have hr := rawD_form hx (formsD r)
      rw [dReadF, if_neg hne, rdDeed_some (by rw [hr]) (by rw [hr]; exact hx), hr]
      simp only
      rw [ih f (fun y hy => hm y (by simp [hy])) (by omega)]
      rfl
theorem dRead_forms {l : List Dd} (h : ∀ x ∈ l, mayD x = true) : dRead (formsD l) = some l := dReadF_forms l _ h (Nat.le_refl _)
/-- The two streams, ahead of a deed. -/
structure Fol (l : List Dd) (i : Nat) (sb : Nat) (sl : List Dd) (ob : Int) (ol gl : List Dd) : Prop where
  hi : i ≤ l.length
  cnt : sb + sl.length = i
  hs : mayS sb sl = true
  ho : mayS ob ol = true
  oc : ob + ol.length = sb
  hsl : sl = (l.take i).drop sb
  hgl : gl = l.take sb
  last : i = l.length → sb = i
  hn : l.length ≤ 200
theorem Fol.start (l : List Dd) (h : l.length ≤ 200) : Fol l 0 0 [] 0 [] [] := ⟨by omega, rfl, rfl, rfl, rfl, by simp, by simp, fun _ => rfl, h⟩
section
variable {l : List Dd} {i sb : Nat} {sl : List Dd} {ob : Int} {ol gl : List Dd}
theorem Fol.gln (h : Fol l i sb sl ob ol gl) : gl.length = sb := by
  rw [h.hgl, List.length_take]; have := h.cnt; have := h.hi; omega
/-- A deed that may not be, or is too many. -/
theorem Fol.add_bad (h : Fol l i sb sl ob ol gl) {x : Dd} (hx : mayD x = false) : addP sb sl x = (0, [], 2) := by
  unfold addP; rw [if_neg (by simp [hx])]
theorem Fol.add_full (h : Fol l i sb sl ob ol gl) {x : Dd} (hx : mayD x = true) (hl : sl.length = 64) : addP sb sl x = (0, [], 5) := by
  unfold addP; rw [if_pos ⟨h.hs, hx⟩, if_pos (.inl hl)]
theorem Fol.add_ok (h : Fol l i sb sl ob ol gl) {x : Dd} (hx : mayD x = true) (hl : sl.length ≠ 64) : addP sb sl x = ((sb : Int), sl ++ [x], 0) := by
  unfold addP
  rw [if_pos ⟨h.hs, hx⟩, if_neg]
  have := h.cnt; have := h.hi; have := h.hn; omega
theorem Fol.may1 (h : Fol l i sb sl ob ol gl) {x : Dd} (hx : mayD x = true) (hl : sl.length ≠ 64) : mayS sb (sl ++ [x]) = true := by
  obtain ⟨i1, i2, i3, i4⟩ := mayS_bnd h.hs
  have := h.cnt; have := h.hi; have := h.hn
  unfold mayS
  rw [Bool.and_eq_true, decide_eq_true_eq, List.all_eq_true, List.length_append]
  refine ⟨⟨by omega, by simp; omega, by simp; omega⟩, fun y hy => ?_⟩
  rcases List.mem_append.1 hy with hy | hy
  · exact i4 y hy
  · rw [List.mem_singleton] at hy; rw [hy]; exact hx
theorem Fol.cnt1 (h : Fol l i sb sl ob ol gl) {x : Dd} (hx : mayD x = true) (hl : sl.length ≠ 64) : cntS sb (sl ++ [x]) = (i : Int) + 1 := by
  unfold cntS
  rw [if_pos (h.may1 hx hl), List.length_append]
  have := h.cnt; simp; omega
theorem Fol.sl1 (h : Fol l i sb sl ob ol gl) (hi : i < l.length) : sl ++ [l[i]] = (l.take (i + 1)).drop sb := by
  rw [List.take_succ_eq_append_getElem hi, List.drop_append_of_le_length (by rw [List.length_take]; have := h.cnt; omega), ← h.hsl]
/-- Not told: a deed more. -/
theorem Fol.quiet (h : Fol l i sb sl ob ol gl) (hi : i + 1 < l.length) (hx : mayD l[i] = true) (hl : sl.length ≠ 64) : Fol l (i + 1) sb (sl ++ [l[i]]) ob ol gl :=
  ⟨by omega, by rw [List.length_append]; have := h.cnt; simp; omega, h.may1 hx hl, h.ho, h.oc, h.sl1 (by omega), h.hgl, fun e => by omega, h.hn⟩
theorem Fol.ocnt (h : Fol l i sb sl ob ol gl) : cntS ob ol = sb := by unfold cntS; rw [if_pos h.ho, h.oc]
theorem since0 {b : Int} {l : List Dd} (h : mayS b l = true) : sinceL b l b = l := by
  unfold sinceL sinceK
  rw [if_pos h, Int.sub_self]; simp
theorem Fol.diff (h : Fol l i sb sl ob ol gl) {x : Dd} (hx : mayD x = true) (hl : sl.length ≠ 64) : diffP ob ol sb (sl ++ [x]) = (formsD (sl ++ [x]), 0) := by
  have hc := h.cnt1 hx hl
  have := h.cnt
  unfold diffP
  rw [if_pos ⟨h.ho, h.may1 hx hl, by rw [h.ocnt]; omega, by rw [h.ocnt, hc]; omega⟩, h.ocnt, since0 (h.may1 hx hl)]
theorem Fol.apply (h : Fol l i sb sl ob ol gl) {x : Dd} (hx : mayD x = true) (hl : sl.length ≠ 64) : applyP ob ol (formsD (sl ++ [x])) = ((sb : Int), sl ++ [x], 0) := by
  have hm := h.may1 hx hl
  unfold applyP
  rw [if_pos h.ho, dRead_forms (mayS_bnd hm).2.2.2]
  simp only
  rw [h.ocnt, if_pos hm]
theorem Fol.cut (h : Fol l i sb sl ob ol gl) {x : Dd} (hx : mayD x = true) (hl : sl.length ≠ 64) : cutP sb (sl ++ [x]) ((i : Int) + 1) = ((i : Int) + 1, [], 0) := by
  have hm := h.may1 hx hl
  have := h.cnt
  unfold cutP
  rw [if_pos ⟨hm, by omega, by rw [List.length_append]; simp; omega⟩]
  unfold sinceL sinceK
  rw [if_pos hm, List.drop_eq_nil_of_le]
  rw [List.length_append]; simp; omega
theorem may_nil (i : Nat) (hi : i ≤ 300) : mayS ((i : Int) + 1) [] = true := by unfold mayS; simp; omega
theorem cnt_nil (i : Nat) (hi : i ≤ 300) : cntS ((i : Int) + 1) [] = (i : Int) + 1 := by unfold cntS; rw [if_pos (may_nil i hi)]; simp
/-- Told: the other stream has all. -/
theorem Fol.told (h : Fol l i sb sl ob ol gl) (hi : i < l.length) (hx : mayD l[i] = true) (hl : sl.length ≠ 64) : Fol l (i + 1) (i + 1) [] sb (sl ++ [l[i]]) (gl ++ (sl ++ [l[i]])) := by
  have hc := h.cnt
  have hn := h.hn
  refine ⟨by omega, rfl, by have := may_nil i (by omega); simpa using this, h.may1 hx hl, by rw [List.length_append]; simp; omega, ?_, ?_, fun _ => rfl, hn⟩
  · rw [List.drop_eq_nil_of_le]; rw [List.length_take]; omega
  · rw [h.sl1 hi, h.hgl]
    have : l.take sb = (l.take (i + 1)).take sb := by rw [List.take_take, Nat.min_eq_left (by omega)]
    rw [this, List.take_append_drop]
theorem Fol.done (h : Fol l l.length sb sl ob ol gl) : gl = l := by rw [h.hgl, h.last rfl, List.take_length]
end
end Go.Proofs.Ytcbllkkbpjobpaa
set_option linter.unusedVariables false
set_option linter.unusedSimpArgs false
namespace Go.Proofs.Ytcbllkkbpjobpaa
open Go.RowKit

set_option maxHeartbeats 1000000 in
theorem alike_any {x : Dd} {B B2 : Option Addr} {e e2 : Nat} {w : World} (hx : RdB w (.slice B x.t.length e) x.t) (hy : RdB w (.slice B2 x.t.length e2) x.t) :
    Calls Try.prog 24 #[.agg #[.int .i64 x.kind, .slice B x.t.length e, .int .i64 x.rows, .int .i64 x.cols], .agg #[.int .i64 x.kind, .slice B2 x.t.length e2, .int .i64 x.rows, .int .i64 x.cols]] w fun e w' => e = .returned (.bool true) ∧ Fr0 w w' := by
  have hf : Fr0 w ((w.alloc (.cells #[.int .i64 x.kind, .slice B x.t.length e, .int .i64 x.rows, .int .i64 x.cols] 28)).alloc (.cells #[.int .i64 x.kind, .slice B2 x.t.length e2, .int .i64 x.rows, .int .i64 x.cols] 28)) := ((Fr0.refl w).alloc _).alloc _
  have q1 := conv_own (hx.fr0 hf)
  have q2 := conv_own (hy.fr0 hf)
  have t1 := strI x.t
  have F := Lib.hid hf
  clear hf hx hy
  go_enter Try.func24, Try.ntmps24
  go_wp2_with fail
  go_ret
  exact ⟨rfl, F.out⟩
end Go.Proofs.Ytcbllkkbpjobpaa
namespace Go.Proofs.Ytcbllkkbpjobpaa
open Go.ChangeShapes Go.WideShapes Go.ChangeAt Go.RowKit Go.Deep

section
variable {H : Type} {enc : TypeId × Value → H} {w : World} {base : Nat} {spare : Nat → Bool} {held : Bool}
theorem read_dd {n : Nat} {cs : List Value} {x : DataW H × List MemPlace} (h : DataW.trod enc Try.prog w base spare held n 28 cs = some x) : ∃ y : Value × Dd, cs = ddC y ∧ RdB w y.1 y.2.t := by
  obtain ⟨hl, hr⟩ := read_fields (k := 4) Try.underlying28 (by kernel_rfl) (by kernel_rfl) h
  match cs, hl with
  | [a, b, c, d], _ =>
    obtain ⟨m, y, hy⟩ := hr 0 (by simp) _ rfl
    obtain ⟨z0, h0, -⟩ := read_int Try.underlying25 hy
    obtain ⟨m, y, hy⟩ := hr 1 (by simp) _ rfl
    obtain ⟨t, ht⟩ := arg_bytes Try.underlying26 Try.underlying5 (by kernel_rfl) hy
    obtain ⟨m, y, hy⟩ := hr 2 (by simp) _ rfl
    obtain ⟨z2, h2, -⟩ := read_int Try.underlying3 hy
    obtain ⟨m, y, hy⟩ := hr 3 (by simp) _ rfl
    obtain ⟨z3, h3, -⟩ := read_int Try.underlying3 hy
    simp only [List.getElem_cons_zero, List.getElem_cons_succ] at h0 h2 h3 ht
    exact ⟨(b, ⟨z0, t, z2, z3⟩), by rw [h0, h2, h3]; rfl, ht⟩
theorem arg_ds {fuel : Nat} {v : Value} {x : DataW H × List MemPlace} (h : DataW.trod enc Try.prog w base spare held fuel 22 [v] = some x) : ∃ l : List Dd, Ds w v l := by
  obtain ⟨tv, h1, h2⟩ := arg_of (k := 4) ddC (fun y => RdB w y.1 y.2.t) (by decide) ddC_len Try.underlying22 (by kernel_rfl) (fun n cs x h => read_dd h) h
  exact ⟨tv.map (·.2), tv, rfl, h1, h2⟩
theorem arg_deed {b0 : Nat} {r : Reach} {v : Value} {d : DataW H} {ps : List MemPlace} (hv : Value.okWide Try.prog w r b0 28 v) (h : DataW.Trod enc Try.prog w base spare held 28 v d ps) : ∃ (dv : Value) (x : Dd), v = .agg #[.int .i64 x.kind, dv, .int .i64 x.rows, .int .i64 x.cols] ∧ RdB w dv x.t := by
  obtain ⟨cs, rfl, _⟩ := okWide_struct Try.underlying28 hv
  obtain ⟨fuel, hf⟩ := h
  obtain ⟨y, hy, hd⟩ := read_dd hf
  refine ⟨y.1, y.2, ?_, hd⟩
  have : cs.toList = _ := hy
  rw [show cs = cs.toList.toArray from by simp, this]; rfl
theorem arg_stream {b0 : Nat} {r : Reach} {v : Value} {d : DataW H} {ps : List MemPlace} (hv : Value.okWide Try.prog w r b0 24 v) (h : DataW.Trod enc Try.prog w base spare held 24 v d ps) : ∃ (b : Int) (sv : Value) (l : List Dd), v = .agg #[.int .i64 b, sv] ∧ Ds w sv l ∧ -9223372036854775808 ≤ b ∧ b ≤ 9223372036854775807 := by
  obtain ⟨cs, rfl, _⟩ := okWide_struct Try.underlying24 hv
  obtain ⟨fuel, hf0⟩ := h
  have hf : DataW.trod enc Try.prog w base spare held fuel 24 cs.toList = some (d, ps) := hf0
  obtain ⟨hl, hr⟩ := read_fields (k := 2) Try.underlying24 (by kernel_rfl) (by kernel_rfl) hf
  have hcs : cs = cs.toList.toArray := by simp
  obtain ⟨l, e⟩ : ∃ l, l = cs.toList := ⟨_, rfl⟩
  have hf' := hf
  rw [← e] at hcs
  have hl' : l.length = 2 := by rw [e]; exact hl
  match l, hl' with
  | [a, b], _ =>
    have hg : ∀ j (hj : j < 2), cs.toList[j]'(by rw [← e]; simpa using hj) = [a, b][j]'(by simpa using hj) := fun j hj => by simp [← e]
    obtain ⟨m, y, hy⟩ := hr 0 (by rw [← e]; simp) _ rfl
    rw [hg 0 (by omega)] at hy
    obtain ⟨z0, h0, hb1, hb2⟩ := read_int Try.underlying3 hy
    obtain ⟨m, y, hy⟩ := hr 1 (by rw [← e]; simp) _ rfl
    rw [hg 1 (by omega)] at hy
    obtain ⟨q, hq⟩ := arg_ds hy
    simp only [List.getElem_cons_zero, List.getElem_cons_succ] at h0 hq
    exact ⟨z0, b, q, by rw [hcs, h0], hq, hb1, hb2⟩
end
end Go.Proofs.Ytcbllkkbpjobpaa
namespace Go.Proofs.Ytcbllkkbpjobpaa
open Go.RowKit
variable {P : Program} {ops : Array Oper} {a : Act} {o : Oper}
theorem yieldsW_load_blk {S : World → Prop} (hw : Region.wanted o (yielded ops a.tmps) = true) (ty : TypeId) (x : Operand) (ho : o.op = .load ty x) (g : Nat) (hx : a.eval x = .pointer (some ⟨g, 0, none⟩)) (t : TypeId) (cs : Array Value) (hS : ∀ w, S w → Blk w g cs t) (d : TypeDesc)
    (hu : P.underlying ty = some d) (hd : d.isRow = true) (hi : (P.info? ty).map (·.size) = some cs.size) : YieldsIf P ops S o (.agg cs) a := by
  have h := yieldsIf_load_mid (P := P) (ops := ops) (S := S) (a := a) (op := o) hw ty x ho g 0 hx cs.toList d (fun w hw j v hv => (hS w hw).cell _ (by simpa using hv)) hu hd (by simpa using hi)
  simpa using h
theorem wp_val {w : World} {K : Act → World → Prop} {Q : Exit → Act → World → Prop} (v : Value) (hrun : (execOp a.eval o).run P w = .ok (.value v) w) (h : K (a.put o.dst v) w) : Oper.wp P o a w K Q := by
  unfold Oper.wp
  rw [hrun]
  exact h
end Go.Proofs.Ytcbllkkbpjobpaa
set_option linter.unusedVariables false
set_option linter.unusedSimpArgs false
namespace Go.Proofs.Ytcbllkkbpjobpaa
open Go.RowKit

theorem stZ2_run (W : World) : (Instr.alloc 24 true (.tuple #[])).run Try.prog W = .ok (.pointer (some ⟨W.heap.size, 0, none⟩)) (W.alloc (.cells #[.int .i64 0, .slice none 0 0] 24)) := by kernel_rfl
theorem el_cells {W : World} {g off k : Nat} {x : Dd} {B : Option Addr} {e : Nat} (h0 : W.cell? ⟨g, off + k * 4, none⟩ = some (.int .i64 x.kind)) (h1 : W.cell? ⟨g, off + k * 4 + 1, none⟩ = some (.slice B x.t.length e)) (h2 : W.cell? ⟨g, off + k * 4 + 2, none⟩ = some (.int .i64 x.rows)) (h3 : W.cell? ⟨g, off + k * 4 + 3, none⟩ = some (.int .i64 x.cols)) :
    ∀ j v, [Value.int .i64 x.kind, .slice B x.t.length e, .int .i64 x.rows, .int .i64 x.cols][j]? = some v → W.cell? ⟨g, off + k * 4 + j, none⟩ = some v := by
  intro j v hj
  match j with
  | 0 => simp at hj; subst hj; simpa using h0
  | 1 => simp at hj; subst hj; exact h1
  | 2 => simp at hj; subst hj; exact h2
  | 3 => simp at hj; subst hj; exact h3
  | j + 4 => simp at hj
/-- The loop's state in memory. -/
structure FolM (l : List Dd) (w wr : World) (g5 g6 : Nat) (i sb : Nat) (sl : List Dd) (ob : Int) (ol gl : List Dd) (S O G : Option Addr) (cS cO cG : Nat) : Prop where
  f : Fr0 w wr
  g5 : Blk wr g5 #[.int .i64 (sb : Int), .slice S sl.length cS] 24
  g6 : Blk wr g6 #[.int .i64 ob, .slice O ol.length cO] 24
  dS : DsG (SlO w.heap.size) w.heap.size wr (.slice S sl.length cS) sl
  dO : DsG (SlO w.heap.size) w.heap.size wr (.slice O ol.length cO) ol
  dG : DsG (SlO w.heap.size) w.heap.size wr (.slice G gl.length cG) gl
  fol : Fol l i sb sl ob ol gl
theorem list_append_two {base : Nat} {w : World} {v v2 : Value} {l l2 : List Dd} {ops : Array Oper} {rest : List Oper} {o : Oper} {a : Act} {Q : Exit → Act → World → Prop} {n m : Nat} (hgd : o.guard = none) (s x : Operand) (ho : o.op = .call { callee := .builtin .append, args := #[s, x], argTypes := #[22, 22] })
    (hb : base ≤ w.heap.size) (h : DsG (SlO base) base w v l) (hs : a.eval s = v) {b2 : Nat} (h2 : DsG (SlO base) b2 w v2 l2) (hx : a.eval x = v2) (hln : l.length = n) (hlm : l2.length = m) (hn : n + m ≤ 1000000)
    (hK : ∀ A c w', DsG (SlO base) base w' (.slice A (n + m) c) (l ++ l2) → Fr (ownB v) w w' → wpList Try.prog ops Q rest (a.put o.dst (.slice A (n + m) c)) w') : wpList Try.prog ops Q (o :: rest) a w :=
  wpList_plain hgd fun _ hKK => wp_append_two s x ho hb h hs h2 hx hln hlm hn (fun A c w' h1 h2 => hKK _ _ (hK A c w' h1 h2))
set_option maxHeartbeats 8000000 in
set_option maxRecDepth 100000 in
theorem inputFollows_any {lv tv : Value} {l : List Dd} {told : List Int} {w : World} (h : Ds w lv l) (ht : Rd w 1 tv told.length (icells told)) :
    Calls Try.prog 5 #[lv, tv] w fun e w' => e = .returned (.bool true) ∧ Fr0 w w' := by
  obtain ⟨A, c, rfl, -⟩ := h.form
  obtain ⟨At, ct, rfl, -⟩ := ht.form
  have l63 := h.le63
  have t63 := ht.le63
  have KN := Lib.hid known21_any
  have H := Lib.hid h
  have HT := Lib.hid ht
  obtain ⟨n, hn⟩ : ∃ n, n = l.length := ⟨_, rfl⟩
  obtain ⟨nt, hnt⟩ : ∃ n, n = told.length := ⟨_, rfl⟩
  rw [← hn] at H l63 ⊢
  rw [← hnt] at HT t63 ⊢
  have HN := Lib.hid hn
  have HNT := Lib.hid hnt
  clear h ht hn hnt
  by_cases h1 : 200 < n
  · have d1 : decide (200 < (n : Int)) = true := by simp; omega
    have d2 : decide (200 < n) = true := by simpa using h1
    clear h1
    go_enter Try.func5, Try.ntmps5
    go_wp2_with (go_at_call 8; refine (KN.out _).mono ?_; rintro e w1 ⟨rfl, hf⟩; have F1 := Lib.hid hf; clear hf)
    go_ret
    exact ⟨rfl, F1.out⟩
  have d1 : decide (200 < (n : Int)) = false := by simp; omega
  have d2 : decide (200 < n) = false := by simpa using h1
  by_cases h2 : 200 < nt
  · have d3 : decide (200 < (nt : Int)) = true := by simp; omega
    have d4 : decide (200 < nt) = true := by simpa using h2
    clear h1 h2
    go_enter Try.func5, Try.ntmps5
    go_wp2_with (go_at_call 8; refine (KN.out _).mono ?_; rintro e w1 ⟨rfl, hf⟩; have F1 := Lib.hid hf; clear hf)
    go_ret
    exact ⟨rfl, F1.out⟩
  have d3 : decide (200 < (nt : Int)) = false := by simp; omega
  have d4 : decide (200 < nt) = false := by simpa using h2
  have n200 : n ≤ 200 := by omega
  clear h1 h2
  go_enter Try.func5, Try.ntmps5
  go_upto_region 8 with (go_at_call 8; refine (KN.out _).mono ?_; rintro e w1 ⟨rfl, hf⟩; have F1 := Lib.hid hf; clear hf)
  obtain ⟨g5, hg5⟩ : ∃ g, g = w1.heap.size := ⟨_, rfl⟩
  obtain ⟨g6, hg6⟩ : ∃ g, g = w1.heap.size + 1 := ⟨_, rfl⟩
  have B5 := Lib.hid (show Blk ((w1.alloc (.cells #[.int .i64 0, .slice none 0 0] 24)).alloc (.cells #[.int .i64 0, .slice none 0 0] 24)) g5 #[.int .i64 0, .slice none 0 0] 24 by rw [hg5]; exact (Blk.new w1 _ 24).alloc _)
  have B6 := Lib.hid (show Blk ((w1.alloc (.cells #[.int .i64 0, .slice none 0 0] 24)).alloc (.cells #[.int .i64 0, .slice none 0 0] 24)) g6 #[.int .i64 0, .slice none 0 0] 24 by rw [hg6]; have := Blk.new (w1.alloc (.cells #[.int .i64 0, .slice none 0 0] 24)) #[.int .i64 0, .slice none 0 0] 24; simpa using this)
  have F2 := Lib.hid (show Fr0 w ((w1.alloc (.cells #[.int .i64 0, .slice none 0 0] 24)).alloc (.cells #[.int .i64 0, .slice none 0 0] 24)) from ((F1.out).alloc _).alloc _)
  have N56 := Lib.hid (show g5 ≠ g6 ∧ w.heap.size ≤ g5 ∧ w.heap.size ≤ g6 by have := (F1.out).size; omega)
  rw [← hg6]
  rw [← hg5]
  clear hg5 hg6
  go_loopw [7, 8] (fun v7 v8 wr => ∃ (i sb : Nat) (sl : List Dd) (ob : Int) (ol gl : List Dd) (S O G : Option Addr) (cS cO cG q : Nat), v7 = .slice G q cG ∧ v8 = .int .i64 i ∧ Hid (q = gl.length ∧ FolM l w wr g5 g6 i sb sl ob ol gl S O G cS cO cG)) (fun _ v8 _ => n - (intOf v8).toNat)
  case atStart => exact ⟨0, 0, [], 0, [], [], none, none, none, 0, 0, 0, 0, rfl, rfl, Lib.hid ⟨rfl, F2.out, B5.out, B6.out, DsG.nil _ _ _, DsG.nil _ _ _, DsG.nil _ _ _, Fol.start l (by rw [← HN.out]; exact n200)⟩⟩
  case round =>
    obtain ⟨i, sb, sl, ob, ol, gl, S, O, G, cS, cO, cG, q, rfl, rfl, hI⟩ := hrel
    have I := Lib.hid (hI.out).2
    have HQ := Lib.hid (hI.out).1
    clear hI F1 F2 B5 B6 KN
    have hin : i ≤ n := by have := (I.out).fol.hi; have := HN.out; omega
    by_cases hlt : i < n
    · have i1 : (i : Int) < (n : Int) := by omega
      have p1 : i < l.length := by have := HN.out; omega
      have FA := Lib.hid ((I.out).f)
      obtain ⟨gl0, off0, Bx, ex, rfl, hic, hgl, e0, e1, e2, e3, hrx⟩ := ((H.out).fr0 FA.out).cell (i := i) p1
      have LSL := Lib.hid ((I.out).fol.sl1 p1)
      have HQT := Lib.hid (fun (hi : i + 1 < l.length) (hx : mayD (l[i]'p1) = true) hl => show Fol l (i + 1) sb (sl ++ [l[i]'p1]) ob ol gl from (I.out).fol.quiet hi hx hl)
      have HTD := Lib.hid (fun (hx : mayD (l[i]'p1) = true) hl => show Fol l (i + 1) (i + 1) [] sb (sl ++ [l[i]'p1]) (gl ++ (sl ++ [l[i]'p1])) from (I.out).fol.told p1 hx hl)
      obtain ⟨x, hx1⟩ : ∃ x, x = l[i] := ⟨_, rfl⟩
      rw [← hx1] at e0 e1 e2 e3 hrx LSL HQT HTD
      have G5 := Lib.hid (I.out).g5.drew
      have LO := Lib.hid (show w.heap.size ≤ wr.drew.heap.size from (FA.out).size)
      have EL := Lib.hid (fun W (hf : Fr0 wr.drew W) => el_cells (W := W) (g := gl0) (off := off0) (k := i) (x := x) (B := Bx) (e := ex) (hf.cell e0) (hf.cell e1) (hf.cell e2) (hf.cell e3))
      have HADD := Lib.hid (fun W (hf : Fr0 wr.drew W) => add_any (b := sb) (l := sl) (A := S) (c := cS) (d := x) (Bd := Bx) (ed := ex) (w := W) (((I.out).dS.ds (fun v t h => h.rd)).fr0 (Fr0.trans ((Fr0.refl wr).drew) hf)) (hrx.fr0 (Fr0.trans ((Fr0.refl wr).drew) hf)))
      have HRX := Lib.hid hrx
      have FB := Lib.hid (fun hx => (I.out).fol.add_bad (x := x) hx)
      have FF := Lib.hid (fun hx hl => (I.out).fol.add_full (x := x) hx hl)
      have FO := Lib.hid (fun hx hl => (I.out).fol.add_ok (x := x) hx hl)
      unfold AddOut at HADD
      obtain ⟨P, hP⟩ : ∃ p, p = addP sb sl x := ⟨_, rfl⟩
      rw [← hP] at HADD FB FF FO
      clear hP hrx p1 hx1
      go_upto_region 10 with (fail)
      go_cut [9, 10] (fun s9 s10 wx => ∃ (g9 : Nat) (B1 : Option Addr) (c1 : Nat), s9 = .pointer (some ⟨g9, 0, none⟩) ∧ s10 = .int .i64 P.2.2 ∧ Fr0 wr.drew wx ∧ Blk wx g9 #[.int .i64 P.1, .slice B1 P.2.1.length c1] 24 ∧ wr.drew.heap.size ≤ g9 ∧ DsG (SlO w.heap.size) w.heap.size wx (.slice B1 P.2.1.length c1) P.2.1 ∧ ∀ k, ownB (.slice B1 P.2.1.length c1) k → wr.drew.heap.size ≤ k)
      case first =>
        refine wp_region_held_drew (S := (fun W => Fr0 wr.drew W)) (by kernel_rfl) (Fr0.refl _) (fun hHeld => ?_)
        generalize wr.drew = wq at *
        have U0 := Lib.hid (Fr0.refl wq)
        have _hI : True := trivial
        clear _hI
        refine takeH (i := 0) rfl (by kernel_rfl) (by kernel_rfl) (by kernel_rfl) (fun _ _ _ h => h) (yieldsW_load_blk rfl 24 _ rfl g5 rfl 24 #[.int .i64 (sb : Int), .slice S sl.length cS] (fun W hW => (G5.out).fr0 hW) _ Try.underlying24 rfl (by kernel_rfl)) (Fr0.refl wq) ?_
        try simp only [Act.put, List.setIfInBounds_toArray, List.set_cons_zero, List.set_cons_succ]
        have _hI : True := trivial
        clear _hI
        refine takeH (i := 1) rfl (by kernel_rfl) (by kernel_rfl) (by kernel_rfl) (fun _ _ _ h => h) (.inl ⟨rfl, fun W hW => (by go_simp; try rfl)⟩) (Fr0.refl wq) ?_
        try simp only [Act.put, List.setIfInBounds_toArray, List.set_cons_zero, List.set_cons_succ]
        have _hI : True := trivial
        clear _hI
        refine takeH (i := 2) rfl (by kernel_rfl) (by kernel_rfl) (by kernel_rfl) (fun _ _ _ h => h) (.inl ⟨rfl, fun W hW => (by go_simp; try rfl)⟩) (Fr0.refl wq) ?_
        try simp only [Act.put, List.setIfInBounds_toArray, List.set_cons_zero, List.set_cons_succ]
        have _hI : True := trivial
        clear _hI
        refine takeH (i := 3) rfl (by kernel_rfl) (by kernel_rfl) (by kernel_rfl) (fun _ _ _ h => h) (v := .pointer (some ⟨gl0, off0 + i * 4, none⟩)) (.inl ⟨rfl, fun W hW => (by go_simp; try rfl)⟩) (Fr0.refl wq) ?_
        try simp only [Act.put, List.setIfInBounds_toArray, List.set_cons_zero, List.set_cons_succ]
        have _hI : True := trivial
        clear _hI
        refine takeH (i := 4) rfl (by kernel_rfl) (by kernel_rfl) (by kernel_rfl) (fun _ _ _ h => h) (yieldsIf_load_mid rfl 28 _ rfl gl0 (off0 + i * 4) rfl [.int .i64 x.kind, .slice Bx x.t.length ex, .int .i64 x.rows, .int .i64 x.cols] _ (fun W hW => EL.out W hW) Try.underlying28 rfl (by kernel_rfl)) (Fr0.refl wq) ?_
        try simp only [Act.put, List.setIfInBounds_toArray, List.set_cons_zero, List.set_cons_succ]
        have _hI : True := trivial
        clear _hI
        refine wpAnyH_ready (rs := [5, 9]) (by kernel_rfl) (by simp) (consG rfl rfl (fun K hK => ?_) (consG rfl rfl (fun K hK => ?_) AllReadyH.nil))
        ·
          have _hI : True := trivial
          clear _hI
          go_simp
          refine (HADD.out _ U0.out).mono ?_
          rintro e Wn1 ⟨B1, c1, rfl, hd, hf⟩
          have O1 := Lib.hid (fun k hk => show wq.heap.size ≤ k from Nat.le_trans (U0.out).size (hd.lo k hk).1)
          have D1 := Lib.hid (hd.mono (b2 := w.heap.size) (T2 := SlO w.heap.size) (Nat.le_trans LO.out (U0.out).size) (fun v t h => h.low (Nat.le_trans LO.out (U0.out).size)))
          have U1 := Lib.hid (Fr0.trans U0.out hf)
          clear hf hd
          refine hK.out _ _ U1.out ?_
          clear hK
          try simp only [Act.put, List.setIfInBounds_toArray, List.set_cons_zero, List.set_cons_succ]
          have _hI : True := trivial
          clear _hI
          refine takeH (i := 6) rfl (by kernel_rfl) (by kernel_rfl) (by kernel_rfl) (fun _ _ _ h => h) (.inl ⟨rfl, fun W hW => (by go_simp; try rfl)⟩) U1.out ?_
          try simp only [Act.put, List.setIfInBounds_toArray, List.set_cons_zero, List.set_cons_succ]
          have _hI : True := trivial
          clear _hI
          refine takeH (i := 7) rfl (by kernel_rfl) (by kernel_rfl) (by kernel_rfl) (fun _ _ _ h => h) (.inl ⟨rfl, fun W hW => (by go_simp; try rfl)⟩) U1.out ?_
          try simp only [Act.put, List.setIfInBounds_toArray, List.set_cons_zero, List.set_cons_succ]
          have _hI : True := trivial
          clear _hI
          refine takeH (i := 8) rfl (by kernel_rfl) (by kernel_rfl) (by kernel_rfl) (fun _ _ _ h => h) (.inl ⟨rfl, fun W hW => (by go_simp; try rfl)⟩) U1.out ?_
          try simp only [Act.put, List.setIfInBounds_toArray, List.set_cons_zero, List.set_cons_succ]
          have _hI : True := trivial
          clear _hI
          refine wpAnyH_ready (rs := [9]) (by kernel_rfl) (by simp) (consG rfl rfl (fun K hK => ?_) AllReadyH.nil)
          have _hI : True := trivial
          clear _hI
          refine wp_alloc_blk 24 rfl #[.int .i64 0, .slice none 0 0] (fun W => stZ2_run W) ?_
          intro g9 Wn2 hB hf hg
          have L9 := Lib.hid (show wq.heap.size ≤ g9 from Nat.le_trans (U1.out).size hg)
          replace D1 := Lib.hid ((D1.out).fr0 hf (fun v t h => h.fr0 hf))
          have G9 := Lib.hid hB
          have U2 := Lib.hid (Fr0.trans U1.out hf)
          clear hB hf hg
          refine hK.out _ _ U2.out ?_
          clear hK
          try simp only [Act.put, List.setIfInBounds_toArray, List.set_cons_zero, List.set_cons_succ]
          have _hI : True := trivial
          clear _hI
          refine wpAnyH_ready (rs := [10]) (by kernel_rfl) (by simp) (consG rfl rfl (fun K hK => ?_) AllReadyH.nil)
          have _hI : True := trivial
          clear _hI
          refine wp_store_blk ?qty3 ?qex3 ?qey3 ?qho3 ?qgg3 ?qcc3 ?qhx3 ?qhy3 ?qtt3 ?qold3 ?qhb3 ?qhi3 ?qhd3 ?qh13 ?qre3
          case qcc3 => exact #[.int .i64 P.1, .slice B1 P.2.1.length c1]
          case qty3 => exact 24
          case qtt3 => exact 24
          case qgg3 => exact g9
          case qold3 => exact #[.int .i64 0, .slice none 0 0]
          case qex3 => exact (.tmp 9)
          case qey3 => exact (.tmp 44)
          case qho3 => rfl
          case qhb3 => exact G9.out
          case qhi3 => kernel_rfl
          case qhd3 => rfl
          case qh13 => first | rfl | (simp [Value.oneCell'])
          case qhx3 => rfl
          case qhy3 => rfl
          intro Wn3 hB hf
          replace D1 := Lib.hid ((D1.out).frS hf G9.out (by decide) (by decide))
          replace G9 := Lib.hid hB
          have U3 := Lib.hid (Fr0.new U2.out hf L9.out)
          clear hB hf
          refine hK.out _ _ U3.out ?_
          clear hK
          try simp only [Act.put, List.setIfInBounds_toArray, List.set_cons_zero, List.set_cons_succ]
          have _hI : True := trivial
          clear _hI
          refine takeH (i := 11) rfl (by kernel_rfl) (by kernel_rfl) (by kernel_rfl) (fun _ _ _ h => h) (.inl ⟨rfl, fun W hW => (by go_simp; try rfl)⟩) U3.out ?_
          try simp only [Act.put, List.setIfInBounds_toArray, List.set_cons_zero, List.set_cons_succ]
          refine wpAnyH_done (by kernel_rfl) ?_ _
          go_wp2_with fail
          go_meet
          exact ⟨g9, B1, c1, rfl, rfl, U3.out, G9.out, L9.out, D1.out, O1.out⟩
        ·
          have _hI : True := trivial
          clear _hI
          refine wp_alloc_blk 24 rfl #[.int .i64 0, .slice none 0 0] (fun W => stZ2_run W) ?_
          intro g9 Wn4 hB hf hg
          have L9 := Lib.hid (show wq.heap.size ≤ g9 from Nat.le_trans (U0.out).size hg)
          have G9 := Lib.hid hB
          have U4 := Lib.hid (Fr0.trans U0.out hf)
          clear hB hf hg
          refine hK.out _ _ U4.out ?_
          clear hK
          try simp only [Act.put, List.setIfInBounds_toArray, List.set_cons_zero, List.set_cons_succ]
          have _hI : True := trivial
          clear _hI
          refine wpAnyH_ready (rs := [5]) (by kernel_rfl) (by simp) (consG rfl rfl (fun K hK => ?_) AllReadyH.nil)
          have _hI : True := trivial
          clear _hI
          go_simp
          refine (HADD.out _ U4.out).mono ?_
          rintro e Wn5 ⟨B1, c1, rfl, hd, hf⟩
          replace G9 := Lib.hid ((G9.out).fr0 hf)
          have O1 := Lib.hid (fun k hk => show wq.heap.size ≤ k from Nat.le_trans (U4.out).size (hd.lo k hk).1)
          have D1 := Lib.hid (hd.mono (b2 := w.heap.size) (T2 := SlO w.heap.size) (Nat.le_trans LO.out (U4.out).size) (fun v t h => h.low (Nat.le_trans LO.out (U4.out).size)))
          have U5 := Lib.hid (Fr0.trans U4.out hf)
          clear hf hd
          refine hK.out _ _ U5.out ?_
          clear hK
          try simp only [Act.put, List.setIfInBounds_toArray, List.set_cons_zero, List.set_cons_succ]
          have _hI : True := trivial
          clear _hI
          refine takeH (i := 6) rfl (by kernel_rfl) (by kernel_rfl) (by kernel_rfl) (fun _ _ _ h => h) (.inl ⟨rfl, fun W hW => (by go_simp; try rfl)⟩) U5.out ?_
          try simp only [Act.put, List.setIfInBounds_toArray, List.set_cons_zero, List.set_cons_succ]
          have _hI : True := trivial
          clear _hI
          refine takeH (i := 7) rfl (by kernel_rfl) (by kernel_rfl) (by kernel_rfl) (fun _ _ _ h => h) (.inl ⟨rfl, fun W hW => (by go_simp; try rfl)⟩) U5.out ?_
          try simp only [Act.put, List.setIfInBounds_toArray, List.set_cons_zero, List.set_cons_succ]
          have _hI : True := trivial
          clear _hI
          refine takeH (i := 8) rfl (by kernel_rfl) (by kernel_rfl) (by kernel_rfl) (fun _ _ _ h => h) (.inl ⟨rfl, fun W hW => (by go_simp; try rfl)⟩) U5.out ?_
          try simp only [Act.put, List.setIfInBounds_toArray, List.set_cons_zero, List.set_cons_succ]
          have _hI : True := trivial
          clear _hI
          refine wpAnyH_ready (rs := [10]) (by kernel_rfl) (by simp) (consG rfl rfl (fun K hK => ?_) AllReadyH.nil)
          have _hI : True := trivial
          clear _hI
          refine wp_store_blk ?qty6 ?qex6 ?qey6 ?qho6 ?qgg6 ?qcc6 ?qhx6 ?qhy6 ?qtt6 ?qold6 ?qhb6 ?qhi6 ?qhd6 ?qh16 ?qre6
          case qcc6 => exact #[.int .i64 P.1, .slice B1 P.2.1.length c1]
          case qty6 => exact 24
          case qtt6 => exact 24
          case qgg6 => exact g9
          case qold6 => exact #[.int .i64 0, .slice none 0 0]
          case qex6 => exact (.tmp 9)
          case qey6 => exact (.tmp 44)
          case qho6 => rfl
          case qhb6 => exact G9.out
          case qhi6 => kernel_rfl
          case qhd6 => rfl
          case qh16 => first | rfl | (simp [Value.oneCell'])
          case qhx6 => rfl
          case qhy6 => rfl
          intro Wn6 hB hf
          replace D1 := Lib.hid ((D1.out).frS hf G9.out (by decide) (by decide))
          replace G9 := Lib.hid hB
          have U6 := Lib.hid (Fr0.new U5.out hf L9.out)
          clear hB hf
          refine hK.out _ _ U6.out ?_
          clear hK
          try simp only [Act.put, List.setIfInBounds_toArray, List.set_cons_zero, List.set_cons_succ]
          have _hI : True := trivial
          clear _hI
          refine takeH (i := 11) rfl (by kernel_rfl) (by kernel_rfl) (by kernel_rfl) (fun _ _ _ h => h) (.inl ⟨rfl, fun W hW => (by go_simp; try rfl)⟩) U6.out ?_
          try simp only [Act.put, List.setIfInBounds_toArray, List.set_cons_zero, List.set_cons_succ]
          refine wpAnyH_done (by kernel_rfl) ?_ _
          go_wp2_with fail
          go_meet
          exact ⟨g9, B1, c1, rfl, rfl, U6.out, G9.out, L9.out, D1.out, O1.out⟩
      case rest =>
        obtain ⟨g9, B1, c1, rfl, rfl, hf, hG9, hl9, hD1, hO1⟩ := hcut
        have HF := Lib.hid (show Fr0 wr wc from Fr0.trans ((Fr0.refl wr).drew) hf)
        have FC := Lib.hid (Fr0.trans FA.out HF.out)
        have C5 := Lib.hid ((I.out).g5.fr0 HF.out)
        have C6 := Lib.hid ((I.out).g6.fr0 HF.out)
        have CO := Lib.hid ((I.out).dO.fr0 HF.out (fun v t h => h.fr0 HF.out))
        have CG := Lib.hid ((I.out).dG.fr0 HF.out (fun v t h => h.fr0 HF.out))
        have C9 := Lib.hid hG9
        have CD := Lib.hid hD1
        have ELC := EL.out wc hf
        have GLO := Lib.hid (fun k (hk : ownB (.slice G gl.length cG) k) => show k < wr.heap.size from ((I.out).dG.lo k hk).2)
        have N9 := Lib.hid (show g5 ≠ g9 ∧ g6 ≠ g9 from by have h1 := (I.out).g5.lt; have h2 := (I.out).g6.lt; have h3 : wr.heap.size ≤ g9 := hl9; omega)
        have RX := Lib.hid ((HRX.out).fr0 HF.out)
        have DLO := Lib.hid (fun k (hk : ownB (.slice B1 P.2.1.length c1) k) (hg : ownB (.slice G gl.length cG) k) => show False from by have h1 := hO1 k hk; have h2 := (GLO.out) k hg; have h3 : wr.drew.heap.size = wr.heap.size := rfl; omega)
        clear hO1
        obtain ⟨pb, pl, pe⟩ := P
        simp only at C9 CD DLO
        by_cases hx : mayD x = true
        case neg =>
          have hx0 : mayD x = false := by simpa using hx
          obtain ⟨rfl, h⟩ := Prod.mk.inj (FB.out hx0)
          obtain ⟨rfl, rfl⟩ := Prod.mk.inj h
          have c0 : wc.cell? ⟨gl0, off0 + i * 4, none⟩ = some (.int .i64 x.kind) := ELC 0 _ rfl
          have c1' := ELC 1 _ rfl
          have c2' := ELC 2 _ rfl
          have c3' := ELC 3 _ rfl
          have HMA := Lib.hid (show Calls Try.prog 22 #[.agg #[.int .i64 0, .slice (some ⟨wc.heap.size, 0, none⟩) 1 1]] (wc.alloc (.cells (ddA x Bx ex) 28)) fun e w' => e = .returned (.bool false) ∧ Fr0 (wc.alloc (.cells (ddA x Bx ex) 28)) w' from by
            have hh := mayS_any (b := 0) (l := [x]) (A := some ⟨wc.heap.size, 0, none⟩) (c := 1) (w := wc.alloc (.cells (ddA x Bx ex) 28)) ⟨[(_, x)], rfl, rd_dd (Blk.new wc (ddA x Bx ex) 28), fun y hy => by rw [List.mem_singleton] at hy; subst hy; exact (RX.out).fr0 ((Fr0.refl wc).alloc _)⟩
            rwa [show mayS 0 [x] = false from by unfold mayS; simp [hx0]] at hh)
          unfold ddA at HMA
          clear hx hx0 h FB FF FO hf hG9 hD1 ELC EL HADD
          go_wp2_with (go_at_call 22; refine (HMA.out).mono ?_; rintro e w5 ⟨rfl, hf⟩; have F5 := Lib.hid (Fr0.trans ((FC.out).alloc _) hf); clear hf)
          go_ret
          exact ⟨rfl, F5.out⟩
        by_cases h64 : sl.length = 64
        case pos =>
          obtain ⟨rfl, h⟩ := Prod.mk.inj (FF.out hx h64)
          obtain ⟨rfl, rfl⟩ := Prod.mk.inj h
          have c1' : wc.cell? ⟨g5, 1, none⟩ = some (.slice S 64 cS) := by rw [← h64]; exact (C5.out).cell 1 rfl
          clear h FB FF FO hf hG9 hD1 ELC EL HADD h64 hx
          go_wp2_with fail
          go_ret
          exact ⟨rfl, FC.out⟩
        case neg =>
          obtain ⟨rfl, h⟩ := Prod.mk.inj (FO.out hx h64)
          obtain ⟨hpl, rfl⟩ := Prod.mk.inj h
          have HPL := Lib.hid hpl
          have HX := Lib.hid hx
          have H64 := Lib.hid h64
          have MAY1 := Lib.hid (show mayS sb pl = true by rw [hpl]; exact (I.out).fol.may1 hx h64)
          have CNT1 := Lib.hid (show cntS sb pl = (i : Int) + 1 by rw [hpl]; exact (I.out).fol.cnt1 hx h64)
          have DIF := Lib.hid (show diffP ob ol sb pl = (formsD pl, 0) by rw [hpl]; exact (I.out).fol.diff hx h64)
          have APP := Lib.hid (show applyP ob ol (formsD pl) = ((sb : Int), pl, 0) by rw [hpl]; exact (I.out).fol.apply hx h64)
          have CUT := Lib.hid (show cutP sb pl ((i : Int) + 1) = ((i : Int) + 1, [], 0) by rw [hpl]; exact (I.out).fol.cut hx h64)
          have OCN := Lib.hid ((I.out).fol.ocnt)
          have S0 := Lib.hid (since0 MAY1.out)
          have PN := Lib.hid (show pl.length ≤ 64 from (mayS_bnd MAY1.out).2.1)
          have SBN := Lib.hid (show sb ≤ 200 from by have h1 := (I.out).fol.cnt; have h2 := (I.out).fol.hi; have h3 := (I.out).fol.hn; omega)
          have FDL := Lib.hid (show (formsD pl).length ≤ 100000 from by have h1 := formsD_len (mayS_bnd MAY1.out).2.2.2; have h2 := PN.out; omega)
          have c0 := (C9.out).cell 0 rfl
          have c1' := (C9.out).cell 1 rfl
          have s0 := (C5.out).cell 0 rfl
          have s1 := (C5.out).cell 1 rfl
          have sf0 := (C5.out).free 0
          have sf1 := (C5.out).free 1
          have V5 := fr1_set2 wc g5 (.int .i64 (sb : Int)) (.slice B1 pl.length c1)
          have E5 := Lib.hid (blk_set2 C5.out (.int .i64 (sb : Int)) (.slice B1 pl.length c1))
          have E6 := Lib.hid ((C6.out).fr1 V5 (N56.out).1.symm)
          have ED := Lib.hid ((CD.out).frS V5 C5.out (by decide) (by decide))
          have EO := Lib.hid ((CO.out).frS V5 C5.out (by decide) (by decide))
          have EG := Lib.hid ((CG.out).frS V5 C5.out (by decide) (by decide))
          have EF := Lib.hid (Fr0.new FC.out V5 (N56.out).2.1)
          obtain ⟨np, hnp⟩ : ∃ q, q = pl.length := ⟨_, rfl⟩
          have HNP := Lib.hid hnp
          rw [← hnp] at c1' E5 E6 ED EO EG EF DLO
          have HCN := Lib.hid (show Calls Try.prog 23 #[.agg #[.int .i64 (sb : Int), .slice B1 np c1]] ((wc.setCell ⟨g5, 0, none⟩ (.int .i64 (sb : Int))).setCell ⟨g5, 1, none⟩ (.slice B1 np c1)) fun e w' => e = .returned (.int .i64 ((i : Int) + 1)) ∧ Fr0 ((wc.setCell ⟨g5, 0, none⟩ (.int .i64 (sb : Int))).setCell ⟨g5, 1, none⟩ (.slice B1 np c1)) w' from by
            rw [hnp, ← CNT1.out]
            have ED2 := ED.out
            rw [hnp] at ED2
            exact count_any (ED2.ds (fun v t h => h.rd)))
          have wi : IntKind.i64.wrap ((i : Int) + 1) = (i : Int) + 1 := by rw [IntKind.wrap_i64]; omega
          have wn : IntKind.i64.wrap ((n : Int) - 1) = (n : Int) - 1 := by rw [IntKind.wrap_i64]; omega
          try rw [← hnp]
          clear h hpl hx h64 FB FF FO hf hG9 hD1 ELC EL HADD V5 hnp G5 C5 C6 CD CO CG C9
          go_upto_region 20 with (go_at_call 23; refine (HCN.out).mono ?_; rintro e w5 ⟨rfl, hf⟩; have F5 := Lib.hid (Fr0.trans EF.out hf); have K5 := Lib.hid ((E5.out).fr0 hf); have K6 := Lib.hid ((E6.out).fr0 hf); have KD := Lib.hid ((ED.out).fr0 hf (fun v t h => h.fr0 hf)); have KO := Lib.hid ((EO.out).fr0 hf (fun v t h => h.fr0 hf)); have KG := Lib.hid ((EG.out).fr0 hf (fun v t h => h.fr0 hf)); clear hf)
          go_loopw [11, 12] (fun v11 v12 wx => w5 = wx ∧ ∃ (tb : Bool) (k : Nat), k ≤ nt ∧ v11 = .bool tb ∧ v12 = .int .i64 k ∧ Hid (tb = false → i + 1 ≠ n)) (fun _ v12 _ => nt - (intOf v12).toNat)
          case atStart => exact ⟨rfl, _, 0, Nat.zero_le _, rfl, rfl, Lib.hid (fun h => by have h2 : ((i : Int) == (n : Int) - 1) = false := h; simp at h2; omega)⟩
          case round =>
            obtain ⟨rfl, tb, k, hk, rfl, rfl, htb⟩ := hrel
            by_cases hkt : k < nt
            · have i2 : (k : Int) < (nt : Int) := by omega
              cases tb
              · have hh := ((HT.out).fr0 F5.out).cellA (i := k) hkt
                obtain ⟨gt, offt, rfl, hkc, -, hcell⟩ := hh
                have tc := hcell 0 _ (by rw [Nat.mul_one, Nat.add_zero]; exact icells_at told k (by rw [← HNT.out]; exact hkt))
                obtain ⟨z, hz⟩ : ∃ z, z = told[k]'(by rw [← HNT.out]; exact hkt) := ⟨_, rfl⟩
                rw [← hz, Nat.mul_one, Nat.add_zero] at tc
                have HTB := Lib.hid (htb.out rfl)
                clear hcell hz htb
                go_wp2_with fail
                go_roundw
                case rel => exact ⟨trivial, _, k + 1, by omega, rfl, by go_num, Lib.hid (fun _ => HTB.out)⟩
                case measure => simp [intOf]; omega
              · clear htb
                go_wp2_with fail
                go_roundw
                case rel => exact ⟨trivial, _, k + 1, by omega, rfl, by go_num, Lib.hid (fun h => by cases h)⟩
                case measure => simp [intOf]; omega
            · obtain rfl : k = nt := by omega
              clear hkt
              cases tb
              · have HNI := Lib.hid (htb.out rfl)
                have FQ := Lib.hid (HQT.out (by have h1 := HN.out; have h2 := HNI.out; omega) HX.out H64.out)
                rw [← HPL.out] at FQ
                clear htb
                go_wp2_with fail
                go_roundw
                case rel => exact ⟨i + 1, sb, pl, ob, ol, gl, B1, O, G, c1, cO, cG, q, rfl, by go_num, Lib.hid ⟨HQ.out, F5.out, by rw [← HNP.out]; exact K5.out, K6.out, by rw [← HNP.out]; exact KD.out, KO.out, KG.out, FQ.out⟩⟩
                case measure => simp [intOf]; omega
              · have FT := Lib.hid (HTD.out HX.out H64.out)
                rw [← HPL.out] at FT
                clear htb
                obtain ⟨nd, hnd⟩ : ∃ q, q = (formsD pl).length := ⟨_, rfl⟩
                have KDS := Lib.hid ((KD.out).ds (fun v t h => h.rd))
                have KOS := Lib.hid ((KO.out).ds (fun v t h => h.rd))
                have HDF := Lib.hid (show Calls Try.prog 18 #[.agg #[.int .i64 ob, .slice O ol.length cO], .agg #[.int .i64 (sb : Int), .slice B1 np c1]] w5 fun e w' => ∃ B c', e = .returned (.tuple #[.slice B nd c', .int .i64 0]) ∧ RdB w' (.slice B nd c') (formsD pl) ∧ Fr0 w5 w' from by
                  have h2 := KDS.out
                  rw [HNP.out] at h2 ⊢
                  have h3 := diff_any (b1 := ob) (b2 := (sb : Int)) KOS.out h2
                  rw [DIF.out] at h3
                  rw [hnd]; exact h3)
                have HCO := Lib.hid (fun W (hf : Fr0 w5 W) => show Calls Try.prog 23 #[.agg #[.int .i64 ob, .slice O ol.length cO]] W fun e w' => e = .returned (.int .i64 (sb : Int)) ∧ Fr0 W w' from by
                  rw [← OCN.out]; exact count_any (KOS.out.fr0 hf))
                have HAP := Lib.hid (fun W B c (hf : Fr0 w5 W) (hr : RdB W (.slice B nd c) (formsD pl)) => show Calls Try.prog 19 #[.agg #[.int .i64 ob, .slice O ol.length cO], .slice B nd c] W fun e w' => ∃ B c', e = .returned (.tuple #[.agg #[.int .i64 (sb : Int), .slice B np c'], .int .i64 0]) ∧ DsG (SlO W.heap.size) W.heap.size w' (.slice B np c') pl ∧ Fr0 W w' from by
                  have h3 := apply_any (b := ob) (KOS.out.fr0 hf) hr FDL.out
                  rw [APP.out] at h3
                  rw [HNP.out]; exact h3)
                have HCX := Lib.hid (fun W B c (hd : Ds W (.slice B np c) pl) => show Calls Try.prog 23 #[.agg #[.int .i64 (sb : Int), .slice B np c]] W fun e w' => e = .returned (.int .i64 ((i : Int) + 1)) ∧ Fr0 W w' from by
                  rw [HNP.out] at hd ⊢; rw [← CNT1.out]; exact count_any hd)
                have HSX := Lib.hid (fun W B c (hd : Ds W (.slice B np c) pl) => show Calls Try.prog 13 #[.agg #[.int .i64 (sb : Int), .slice B np c], .int .i64 (sb : Int)] W fun e w' => ∃ B c', e = .returned (.slice B np c') ∧ DsG (SlO W.heap.size) W.heap.size w' (.slice B np c') pl ∧ Fr0 W w' from by
                  have h0 := SBN.out
                  rw [HNP.out] at hd ⊢
                  have h3 := since_any (b := (sb : Int)) (m := (sb : Int)) hd (by omega)
                  rw [S0.out] at h3
                  exact h3)
                have HCU := Lib.hid (fun W B c (hd : Ds W (.slice B np c) pl) => show Calls Try.prog 12 #[.agg #[.int .i64 (sb : Int), .slice B np c], .int .i64 ((i : Int) + 1)] W fun e w' => ∃ B c', e = .returned (.tuple #[.agg #[.int .i64 ((i : Int) + 1), .slice B 0 c'], .int .i64 0]) ∧ DsG (SlO W.heap.size) W.heap.size w' (.slice B 0 c') [] ∧ Fr0 W w' from by
                  rw [HNP.out] at hd ⊢
                  have h3 := cut_any (b := (sb : Int)) (m := (i : Int) + 1) hd (by omega)
                  rw [CUT.out] at h3
                  exact h3)
                have HCE := Lib.hid (fun W B c (hd : Ds W (.slice B 0 c) []) => show Calls Try.prog 23 #[.agg #[.int .i64 ((i : Int) + 1), .slice B 0 c]] W fun e w' => e = .returned (.int .i64 ((i : Int) + 1)) ∧ Fr0 W w' from by
                  have h3 := count_any (b := (i : Int) + 1) hd
                  rw [cnt_nil i (by omega)] at h3; exact h3)
                have KG2 := Lib.hid (show DsG (SlO w.heap.size) w.heap.size w5 (.slice G q cG) gl from by rw [HQ.out]; exact KG.out)
                have DLO2 := Lib.hid (show ∀ k, ownB (.slice B1 np c1) k → ¬ ownB (.slice G q cG) k from by rw [HQ.out]; exact fun k h1 h2 => DLO.out k h1 h2)
                have w50 := (K6.out).cell 0 rfl
                have w51 := (K6.out).cell 1 rfl
                have w52 := (K5.out).cell 0 rfl
                have w53 := (K5.out).cell 1 rfl
                have NPQ := Lib.hid (show q + np ≤ 1000000 from by have h1 := (I.out).fol.gln; have h2 := HQ.out; have h3 := SBN.out; have h4 := PN.out; have h5 := HNP.out; omega)
                clear hnd DLO KG
                go_upto_region 30 with (first
                  | (go_at_call 18; refine (HDF.out).mono ?_; rintro e w7 ⟨B7, c7, rfl, hr, hf⟩; have F7 := Lib.hid hf; have R7 := Lib.hid hr; have p0 := hf.cell w50; have p1 := hf.cell w51; clear hr hf)
                  | (go_at_call 19; refine (HAP.out _ _ _ F8.out R8.out).mono ?_; rintro e w9 ⟨B9, c9, rfl, hd, hf⟩; have GG := Fr0.trans F8.out (hf.alloc (.cells #[.int .i64 (sb : Int), .slice B9 np c9] 24)); have F9 := Lib.hid GG; have X9 := Lib.hid (Blk.new w9 #[.int .i64 (sb : Int), .slice B9 np c9] 24); have XLO := Lib.hid (show ∀ k, ownB (.slice B9 np c9) k → ¬ ownB (.slice G q cG) k from fun k h1 h2 => by have h3 := (hd.lo k h1).1; have h4 := (KG2.out.lo k h2).2; have h5 := (F8.out).size; omega); have SZ := Nat.le_trans (F5.out).size (F8.out).size; have DX9 := Lib.hid ((hd.mono (b2 := w.heap.size) (T2 := SlO w.heap.size) SZ (fun v t h => h.low SZ)).fr0 ((Fr0.refl w9).alloc (.cells #[.int .i64 (sb : Int), .slice B9 np c9] 24)) (fun v t h => h.fr0 ((Fr0.refl w9).alloc _))); clear hd hf GG SZ)
                  | (have _q := X9; go_at_call 23; refine (HCX.out _ _ _ (DX9.out.ds (fun v t h => h.rd))).mono ?_; rintro e w10 ⟨rfl, hf⟩; have F10 := Lib.hid (Fr0.trans F9.out hf); have X10 := Lib.hid ((X9.out).fr0 hf); have DX10 := Lib.hid ((DX9.out).fr0 hf (fun v t h => h.fr0 hf)); have x0 := (X10.out).cell 0 rfl; have x1 := (X10.out).cell 1 rfl; clear hf)
                  | (go_at_call 23; refine (HCO.out _ F7.out).mono ?_; rintro e w8 ⟨rfl, hf⟩; have F8 := Lib.hid (Fr0.trans F7.out hf); have R8 := Lib.hid ((R7.out).fr0 hf); have q0 := hf.cell p0; have q1 := hf.cell p1; clear hf)
                  | (go_at_call 13; refine (HSX.out _ _ _ (DX10.out.ds (fun v t h => h.rd))).mono ?_; rintro e w11 ⟨B11, c11, rfl, hd, hf⟩; have F11 := Lib.hid (Fr0.trans F10.out hf); have X11 := Lib.hid ((X10.out).fr0 hf); have DX11 := Lib.hid ((DX10.out).fr0 hf (fun v t h => h.fr0 hf)); have SZ := Nat.le_trans (F5.out).size (F10.out).size; have D11 := Lib.hid (hd.mono (b2 := w.heap.size) (T2 := SlO w.heap.size) SZ (fun v t h => h.low SZ)); have KG11 := Lib.hid ((KG2.out).fr0 (Fr0.trans F10.out hf) (fun v t h => h.fr0 (Fr0.trans F10.out hf))); have KD11 := Lib.hid ((KD.out).fr0 (Fr0.trans F10.out hf) (fun v t h => h.fr0 (Fr0.trans F10.out hf))); have K511 := Lib.hid ((K5.out).fr0 (Fr0.trans F10.out hf)); have K611 := Lib.hid ((K6.out).fr0 (Fr0.trans F10.out hf)); clear hd hf SZ)
                  | (at_builtin; refine list_append_two (n := q) (m := np) (base := w.heap.size) rfl _ _ rfl (Nat.le_trans (F5.out).size (F11.out).size) KG11.out rfl D11.out rfl HQ.out.symm HNP.out.symm NPQ.out ?_; intro A12 c12 w12 hD hF; have KG12 := Lib.hid hD; have F12 := Lib.hid (show Fr0 w w12 from Fr.then (Fr0.trans F5.out F11.out) hF (fun k hk hl => by have := (KG11.out.lo k hk).1; omega)); have X12 := Lib.hid ((X11.out).fr hF (fun hk => KG11.out.ne X11.out (by decide) _ hk rfl)); have K512 := Lib.hid ((K511.out).fr hF (fun hk => KG11.out.ne K511.out (by decide) _ hk rfl)); have K612 := Lib.hid ((K611.out).fr hF (fun hk => KG11.out.ne K611.out (by decide) _ hk rfl)); have DX12 := Lib.hid ((DX11.out).fr hF XLO.out (fun v t h => slo_keep KG11.out hF h)); have KD12 := Lib.hid ((KD11.out).fr hF DLO2.out (fun v t h => slo_keep KG11.out hF h)); clear hD hF))
                have x0 := (X12.out).cell 0 rfl
                have x1 := (X12.out).cell 1 rfl
                have g60 := (K612.out).cell 0 rfl
                have g61 := (K612.out).cell 1 rfl
                have g6f := (K612.out).free 0
                have g6g := (K612.out).free 1
                have V := fr1_set2 w12 g6 (.int .i64 (sb : Int)) (.slice B9 np c9)
                have M5 := Lib.hid ((K512.out).fr1 V (N56.out).1)
                have M6 := Lib.hid (blk_set2 K612.out (.int .i64 (sb : Int)) (.slice B9 np c9))
                have MX := Lib.hid ((DX12.out).frS V K612.out (by decide) (by decide))
                have MD := Lib.hid ((KD12.out).frS V K612.out (by decide) (by decide))
                have MG := Lib.hid ((KG12.out).frS V K612.out (by decide) (by decide))
                have MF := Lib.hid (Fr0.new F12.out V (N56.out).2.2)
                have m50 := (M5.out).cell 0 rfl
                have m51 := (M5.out).cell 1 rfl
                clear V HDF HCO HAP HCX HSX KOS KDS K511 K611 K512 K612 X11 X12 DX9 DX10 DX11 DX12 KD11 KD12 KG11 KG12 D11 F7 F8 F9 F10 F11 F12 R7 R8 X9 X10 w50 w51 w52 w53 p0 p1 q0 q1
                go_wp2_with (first
                  | (go_at_call 12; refine (HCU.out _ _ _ (MD.out.ds (fun v t h => h.rd))).mono ?_; rintro e w14 ⟨B14, c14, rfl, hd, hf⟩; have GG := hf.alloc (.cells #[.int .i64 ((i : Int) + 1), .slice B14 0 c14] 24); have F14 := Lib.hid (Fr0.trans MF.out GG); have Y14 := Lib.hid (Blk.new w14 #[.int .i64 ((i : Int) + 1), .slice B14 0 c14] 24); have SZ := (MF.out).size; have DC14 := Lib.hid ((hd.mono (b2 := w.heap.size) (T2 := SlO w.heap.size) SZ (fun v t h => h.low SZ)).fr0 ((Fr0.refl w14).alloc (.cells #[.int .i64 ((i : Int) + 1), .slice B14 0 c14] 24)) (fun v t h => h.fr0 ((Fr0.refl w14).alloc _))); have P5 := Lib.hid ((M5.out).fr0 GG); have P6 := Lib.hid ((M6.out).fr0 GG); have PX := Lib.hid ((MX.out).fr0 GG (fun v t h => h.fr0 GG)); have PG := Lib.hid ((MG.out).fr0 GG (fun v t h => h.fr0 GG)); have y1 := (Y14.out).cell 1 rfl; clear hd hf GG SZ)
                  | (go_at_call 23; refine (HCE.out _ _ _ (DC14.out.ds (fun v t h => h.rd))).mono ?_; rintro e w15 ⟨rfl, hf⟩; have F15 := Lib.hid (Fr0.trans F14.out hf); have Q5 := Lib.hid ((P5.out).fr0 hf); have Q6 := Lib.hid ((P6.out).fr0 hf); have QX := Lib.hid ((PX.out).fr0 hf (fun v t h => h.fr0 hf)); have QG := Lib.hid ((PG.out).fr0 hf (fun v t h => h.fr0 hf)); have QC := Lib.hid ((DC14.out).fr0 hf (fun v t h => h.fr0 hf)); have z0 := ((Y14.out).fr0 hf).cell 0 rfl; have z1 := ((Y14.out).fr0 hf).cell 1 rfl; have q0 := (Q5.out).cell 0 rfl; have q1 := (Q5.out).cell 1 rfl; have qf := (Q5.out).free 0; have qg := (Q5.out).free 1; clear hf))
                go_roundw
                case measure => simp [intOf]; omega
                case rel =>
                  have V16 := fr1_set2 w15 g5 (.int .i64 ((i : Int) + 1)) (.slice B14 0 c14)
                  have e1 : (((i + 1 : Nat)) : Int) = (i : Int) + 1 := by omega
                  refine ⟨i + 1, i + 1, [], sb, pl, gl ++ pl, B14, B9, A12, c14, c9, c12, q + np, rfl, by go_num, Lib.hid ⟨by rw [List.length_append, ← HQ.out, ← HNP.out], ?_⟩⟩
                  refine ⟨Fr0.new F15.out V16 (N56.out).2.1, by rw [e1]; exact blk_set2 Q5.out _ _, ?_, (QC.out).frS V16 Q5.out (by decide) (by decide), ?_, ?_, FT.out⟩
                  · rw [← HNP.out]; exact (Q6.out).fr1 V16 (N56.out).1.symm
                  · rw [← HNP.out]; exact (QX.out).frS V16 Q5.out (by decide) (by decide)
                  · rw [List.length_append, ← HQ.out, ← HNP.out]; exact (QG.out).frS V16 Q5.out (by decide) (by decide)
    · obtain rfl : i = n := by omega
      have HGL := Lib.hid (show gl = l from by
        have h1 := (I.out).fol
        have h2 := HN.out
        exact Fol.done (by rw [← h2]; exact h1))
      have HQN := Lib.hid (show q = i by rw [HQ.out, HGL.out, HN.out])
      have DG := Lib.hid (show Ds wr (.slice G i cG) l from by have h := (I.out).dG.ds (fun v t h => h.rd); rw [← HQ.out, HQN.out, HGL.out] at h; exact h)
      have FA := Lib.hid ((I.out).f)
      obtain rfl : q = i := HQN.out
      clear hlt
      go_wp2_with fail
      go_loopw [20] (fun v20 wx => ∃ k : Nat, k ≤ q ∧ v20 = .int .i64 k ∧ Fr0 wr wx) (fun v20 _ => q - (intOf v20).toNat)
      case atStart => exact ⟨0, Nat.zero_le _, rfl, Fr0.refl _⟩
      case round =>
        obtain ⟨k, hk, rfl, hfr⟩ := hrel
        by_cases hkt : k < q
        · have i2 : (k : Int) < (q : Int) := by omega
          have p1 : k < l.length := by have := HN.out; omega
          have FK := Lib.hid hfr
          obtain ⟨ga, oa, Ba, ea, rfl, hac, hal, a0, a1, a2, a3, hra⟩ := ((DG.out).fr0 hfr).cell (i := k) p1
          obtain ⟨gb, ob', Bb, eb, rfl, hbc, hbl, b0, b1, b2, b3, hrb⟩ := ((H.out).fr0 (Fr0.trans FA.out hfr)).cell (i := k) p1
          obtain ⟨x, hx1⟩ : ∃ x, x = l[k] := ⟨_, rfl⟩
          rw [← hx1] at a0 a1 a2 a3 b0 b1 b2 b3 hra hrb
          have RA := Lib.hid hra
          have RB := Lib.hid hrb
          clear hra hrb hx1 p1 hfr
          have EA := Lib.hid (fun W (hf : Fr0 wr.drew W) => el_cells (W := W) (g := ga) (off := oa) (k := k) (x := x) (B := Ba) (e := ea) (hf.cell a0) (hf.cell a1) (hf.cell a2) (hf.cell a3))
          have EB := Lib.hid (fun W (hf : Fr0 wr.drew W) => el_cells (W := W) (g := gb) (off := ob') (k := k) (x := x) (B := Bb) (e := eb) (hf.cell b0) (hf.cell b1) (hf.cell b2) (hf.cell b3))
          have HAL := Lib.hid (fun W (hf : Fr0 wr.drew W) => alike_any (x := x) ((RA.out).fr0 (Fr0.trans ((Fr0.refl wr).drew) hf)) ((RB.out).fr0 (Fr0.trans ((Fr0.refl wr).drew) hf)))
          have FD := Lib.hid (show Fr0 wr wr.drew from (Fr0.refl wr).drew)
          clear a0 a1 a2 a3 b0 b1 b2 b3
          go_upto_region 40 with (fail)
          refine wp_region_held_drew (S := (fun W => Fr0 wr.drew W)) (by kernel_rfl) (Fr0.refl _) (fun hHeld => ?_)
          generalize wr.drew = wq at *
          have U0 := Lib.hid (Fr0.refl wq)
          have _hI : True := trivial
          clear _hI
          refine takeH (i := 0) rfl (by kernel_rfl) (by kernel_rfl) (by kernel_rfl) (fun _ _ _ h => h) (.inl ⟨rfl, fun W hW => (by go_simp; try rfl)⟩) (Fr0.refl wq) ?_
          try simp only [Act.put, List.setIfInBounds_toArray, List.set_cons_zero, List.set_cons_succ]
          have _hI : True := trivial
          clear _hI
          refine takeH (i := 1) rfl (by kernel_rfl) (by kernel_rfl) (by kernel_rfl) (fun _ _ _ h => h) (.inl ⟨rfl, fun W hW => (by go_simp; try rfl)⟩) (Fr0.refl wq) ?_
          try simp only [Act.put, List.setIfInBounds_toArray, List.set_cons_zero, List.set_cons_succ]
          have _hI : True := trivial
          clear _hI
          refine takeH (i := 2) rfl (by kernel_rfl) (by kernel_rfl) (by kernel_rfl) (fun _ _ _ h => h) (v := .pointer (some ⟨ga, oa + k * 4, none⟩)) (.inl ⟨rfl, fun W hW => (by go_simp; try rfl)⟩) (Fr0.refl wq) ?_
          try simp only [Act.put, List.setIfInBounds_toArray, List.set_cons_zero, List.set_cons_succ]
          have _hI : True := trivial
          clear _hI
          refine takeH (i := 3) rfl (by kernel_rfl) (by kernel_rfl) (by kernel_rfl) (fun _ _ _ h => h) (yieldsIf_load_mid rfl 28 _ rfl ga (oa + k * 4) rfl [.int .i64 x.kind, .slice Ba x.t.length ea, .int .i64 x.rows, .int .i64 x.cols] _ (fun W hW => EA.out W hW) Try.underlying28 rfl (by kernel_rfl)) (Fr0.refl wq) ?_
          try simp only [Act.put, List.setIfInBounds_toArray, List.set_cons_zero, List.set_cons_succ]
          have _hI : True := trivial
          clear _hI
          refine takeH (i := 4) rfl (by kernel_rfl) (by kernel_rfl) (by kernel_rfl) (fun _ _ _ h => h) (.inl ⟨rfl, fun W hW => (by go_simp; try rfl)⟩) (Fr0.refl wq) ?_
          try simp only [Act.put, List.setIfInBounds_toArray, List.set_cons_zero, List.set_cons_succ]
          have _hI : True := trivial
          clear _hI
          refine takeH (i := 5) rfl (by kernel_rfl) (by kernel_rfl) (by kernel_rfl) (fun _ _ _ h => h) (.inl ⟨rfl, fun W hW => (by go_simp; try rfl)⟩) (Fr0.refl wq) ?_
          try simp only [Act.put, List.setIfInBounds_toArray, List.set_cons_zero, List.set_cons_succ]
          have _hI : True := trivial
          clear _hI
          refine takeH (i := 6) rfl (by kernel_rfl) (by kernel_rfl) (by kernel_rfl) (fun _ _ _ h => h) (v := .pointer (some ⟨gb, ob' + k * 4, none⟩)) (.inl ⟨rfl, fun W hW => (by go_simp; try rfl)⟩) (Fr0.refl wq) ?_
          try simp only [Act.put, List.setIfInBounds_toArray, List.set_cons_zero, List.set_cons_succ]
          have _hI : True := trivial
          clear _hI
          refine takeH (i := 7) rfl (by kernel_rfl) (by kernel_rfl) (by kernel_rfl) (fun _ _ _ h => h) (yieldsIf_load_mid rfl 28 _ rfl gb (ob' + k * 4) rfl [.int .i64 x.kind, .slice Bb x.t.length eb, .int .i64 x.rows, .int .i64 x.cols] _ (fun W hW => EB.out W hW) Try.underlying28 rfl (by kernel_rfl)) (Fr0.refl wq) ?_
          try simp only [Act.put, List.setIfInBounds_toArray, List.set_cons_zero, List.set_cons_succ]
          have _hI : True := trivial
          clear _hI
          refine wpAnyH_ready (rs := [8]) (by kernel_rfl) (by simp) (consG rfl rfl (fun K hK => ?_) AllReadyH.nil)
          have _hI : True := trivial
          clear _hI
          go_simp
          refine (HAL.out _ U0.out).mono ?_
          rintro e Wn51 ⟨rfl, hf⟩
          have U51 := Lib.hid (Fr0.trans U0.out hf)
          clear hf
          refine hK.out _ _ U51.out ?_
          clear hK
          try simp only [Act.put, List.setIfInBounds_toArray, List.set_cons_zero, List.set_cons_succ]
          have _hI : True := trivial
          clear _hI
          refine takeH (i := 9) rfl (by kernel_rfl) (by kernel_rfl) (by kernel_rfl) (fun _ _ _ h => h) (v := .bool false) (.inl ⟨rfl, fun W hW => (by go_simp; try rfl)⟩) U51.out ?_
          try simp only [Act.put, List.setIfInBounds_toArray, List.set_cons_zero, List.set_cons_succ]
          refine wpAnyH_done (by kernel_rfl) ?_ _
          have F40 := Lib.hid (Fr0.trans FD.out U51.out)
          go_wp2_with fail
          go_roundw
          case rel => exact ⟨k + 1, by omega, by go_num, Fr0.trans FK.out F40.out⟩
          case measure => simp [intOf]; omega
        · obtain rfl : k = q := by omega
          clear hkt
          have FE := Lib.hid hfr
          clear hfr
          go_wp2_with fail
          go_ret
          exact ⟨rfl, Fr0.trans FA.out FE.out⟩
namespace InputFollows
open Go.ChangeShapes Go.WideShapes Go.ChangeAt
open Go.ChangeMaps (open_string shut_string)

theorem own : ownKnob Try.prog.godebug = none := by kernel_rfl
theorem laidOut : laidOutB Try.prog = true := by kernel_rfl

set_option maxRecDepth 100000 in
theorem lifted (os : Os) (started : os.Started) (H : Type) (enc : TypeId × Value → H) :
    ReturnsInHanded {} Try.checked os 5 .any (Rows.inputFollowsSpec.pre6 enc Try.prog Try.f5 Rows.inputFollowsRow.domain false) (Rows.inputFollowsSpec.post enc Try.prog Try.f5 false true false false) := by
  refine returnsInHanded_of_change (C := Try.checked) own started (by kernel_rfl) Try.func5
    (ChangeSpec.witness6 (enc := enc) (C := Try.checked) false ⟨#[], #[.slice none 0 0, .slice none 0 0], []⟩ 8 (by kernel_rfl) (by kernel_rfl) (by kernel_rfl) (by kernel_rfl)) ?_
  intro W base args ds gs before hval0 hW hcnd _
  have hval : ∀ (j : Nat) t v, Try.f5.params[j]? = some t → args[j]? = some v → Value.okWide Try.prog W .any base t v := hval0
  have hW' := hW
  obtain ⟨p, q, hA0, hV, rfl, hfz, hnd⟩ := hW
  have hA : DataW.TrodAll enc Try.prog W 0 (fun _ => true) true Try.f5.params.toList args.toList ds p := hA0
  rw [Try.params5] at hA hval
  obtain ⟨v0, vs0, d0', ds0, p0, q0, hargs, rfl, rfl, h0, r0⟩ := trodAll_cons hA
  obtain ⟨v1, vs1, d1', ds1, p1, q1, rfl, rfl, rfl, h1, r1⟩ := trodAll_cons r0
  obtain ⟨rfl, rfl, rfl⟩ := trodAll_nil r1
  obtain rfl : args = #[v0, v1] := by cases args; simp_all
  obtain ⟨rfl, rfl⟩ := trodVars_none hV
  have k0 := h0
  have lt0 : ∀ x ∈ p0, x.block < W.heap.size := by obtain ⟨m, hm⟩ := k0; exact DataW.trod_lt m _ _ _ hm
  obtain ⟨A0, n0, c0, rfl⟩ := okWide_slice Try.underlying22 (hval 0 22 v0 rfl rfl)
  obtain ⟨fuel0, hf0⟩ := h0
  obtain ⟨l0, hy0⟩ := arg_ds hf0
  have k1 := h1
  have lt1 : ∀ x ∈ p1, x.block < W.heap.size := by obtain ⟨m, hm⟩ := k1; exact DataW.trod_lt m _ _ _ hm
  obtain ⟨A1, n1, c1, rfl⟩ := okWide_slice Try.underlying45 (hval 1 45 v1 rfl rfl)
  obtain ⟨fuel1, hf1⟩ := h1
  obtain ⟨z1, hy1⟩ := arg_ints Try.underlying45 Try.underlying3 (by kernel_rfl) hf1
  clear hA0 hval0
  refine (inputFollows_any hy0 hy1).mono fun e W' ⟨he, hfr⟩ => ?_
  have bel : Below W.heap.size W W' := Fr0.below hfr
  subst he
  exact ⟨_, rfl, _, _, _, [], _, [], hW', trodAll_mk1 (shut_bool Try.underlying4 _), (trodAll_cons_mk (Below.trod laidOut (by kernel_rfl) (of_decide_eq_true (by kernel_rfl)) k0 bel lt0) (trodAll_cons_mk (Below.trod laidOut (by kernel_rfl) (of_decide_eq_true (by kernel_rfl)) k1 bel lt1) trodAll_mk0)), rfl, bel.frame _, fun h => by cases h⟩

theorem over : Rows.inputFollowsRow.holds Try.pinned (OpenSpec.ofChange Rows.inputFollowsSpec) :=
  OpenClaim.holds_of_wide 5 Try.f5 rfl rfl rfl rfl rfl rfl rfl ⟨rfl, rfl, rfl, rfl, rfl⟩ rfl rfl rfl rfl rfl (by kernel_rfl) Try.func5 (by kernel_rfl)
    (of_decide_eq_true (by kernel_rfl)) (by unfold Func.isWrapper; first | (rw [if_pos (by decide +kernel)]; kernel_rfl) | (rw [if_neg (by decide +kernel)]; exact ⟨rfl, rfl⟩))
    (fun os started H enc _ => lifted os started H enc)

theorem proved : Rows.InputFollowsSaid := over
#print axioms proved
end InputFollows
end Go.Proofs.Ytcbllkkbpjobpaa
