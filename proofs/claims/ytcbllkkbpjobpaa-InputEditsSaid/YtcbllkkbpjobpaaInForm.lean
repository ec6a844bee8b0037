/- A deed's form: the program's and the reference's. Conditions stand in the statements. -/
import Derived.Test.YtcbllkkbpjobpaaInCut
import Derived.Test.YtcbllkkbpjobpaaWireTx
import Derived.Test.YtcbllkkbpjobpaaWireRefTx
import Derived.Test.YtcbllkkbpjobpaaConcat
import Derived.Deep.RegionHeldLaw
set_option linter.unusedVariables false
set_option linter.unusedSimpArgs false
namespace Go.Proofs.Ytcbllkkbpjobpaa
open Go.RowKit

/-- A deed's form. -/
def formD (x : Dd) : List UInt8 := form x.kind.toNat ++ (if x.kind = 1 then textForm x.t else if x.kind = 2 then form x.rows.toNat ++ form x.cols.toNat else [])
theorem mayD_cases {x : Dd} (h : mayD x = true) : (x.kind = 1 ∧ 1 ≤ x.t.length ∧ x.t.length ≤ 16 ∧ x.rows = 0 ∧ x.cols = 0) ∨ (x.kind = 2 ∧ (1 ≤ x.rows ∧ x.rows ≤ 1000) ∧ (1 ≤ x.cols ∧ x.cols ≤ 1000) ∧ x.t = []) ∨ ((x.kind = 3 ∨ x.kind = 4) ∧ x.t = [] ∧ x.rows = 0 ∧ x.cols = 0) := by
  unfold mayD mayN at h
  split at h
  · rw [decide_eq_true_eq] at h; exact .inl ⟨by assumption, h⟩
  · split at h
    · rw [decide_eq_true_eq] at h; exact .inr (.inl ⟨by assumption, h.1, h.2.1, List.eq_nil_of_length_eq_zero h.2.2⟩)
    · split at h
      · rw [decide_eq_true_eq] at h; exact .inr (.inr ⟨by assumption, List.eq_nil_of_length_eq_zero h.1, h.2⟩)
      · cases h
theorem formD_len {x : Dd} (h : mayD x = true) : (formD x).length ≤ 60 := by
  unfold formD
  rcases mayD_cases h with ⟨h1, h2, h3, h4, h5⟩ | ⟨h1, h2, h3, h4⟩ | ⟨h1, h2, h3, h4⟩
  · rw [if_pos h1, List.length_append]
    unfold textForm
    rw [List.length_append]
    have := form_len_le (n := x.kind.toNat) (by omega)
    have := form_len_le (n := x.t.length) (by omega)
    omega
  · rw [if_neg (by omega), if_pos h1, List.length_append, List.length_append]
    have := form_len_le (n := x.kind.toNat) (by omega)
    have := form_len_le (n := x.rows.toNat) (by omega)
    have := form_len_le (n := x.cols.toNat) (by omega)
    omega
  · rw [if_neg (by omega), if_neg (by omega), List.length_append]
    have := form_len_le (n := x.kind.toNat) (by omega)
    simp; omega
theorem wnum_i (n : Int) (h0 : 0 ≤ n) (h1 : n ≤ 1000000) (w : World) : Calls Try.prog 44 #[.int .u64 n] w fun e w' => ∃ v, e = .returned v ∧ w'.ownsRow w.heap.size 5 1 v (form n.toNat).length (byts (form n.toNat)) ∧ Fr0 w w' := by
  have := wireNum_any n.toNat (by omega) w
  rwa [Int.toNat_of_nonneg h0] at this
theorem rnum_i (n : Int) (h0 : 0 ≤ n) (h1 : n ≤ 1000000) (w : World) : Calls Try.prog 51 #[.int .u64 n] w fun e w' => ∃ v, e = .returned v ∧ w'.ownsRow w.heap.size 5 1 v (form n.toNat).length (byts (form n.toNat)) ∧ Fr0 w w' := by
  have := refNum_any n.toNat (by omega) w
  rwa [Int.toNat_of_nonneg h0] at this
theorem parts3 {w : World} {v1 v2 v3 : Value} {l1 l2 l3 : List UInt8} (h1 : RdB w v1 l1) (h2 : RdB w v2 l2) (h3 : RdB w v3 l3) (t : TypeId) :
    Parts (w.alloc (.cells #[v1, v2, v3] t)) (.slice (some ⟨w.heap.size, 0, none⟩) 3 3) [(v1, l1), (v2, l2), (v3, l3)] := by
  refine ⟨⟨rfl, ⟨_, _, rfl, by simp, by unfold maxLen; omega, fun h => by cases h⟩, fun _ => ⟨w.heap.size, 0, 3, _, t, _, rfl, heap_alloc_new w _, fun j u hu => by simpa using hu⟩⟩, fun x hx => ?_⟩
  simp only [List.mem_cons, List.not_mem_nil, or_false] at hx
  have F := (Fr0.refl w).alloc (.cells #[v1, v2, v3] t)
  rcases hx with rfl | rfl | rfl
  · exact h1.fr0 F
  · exact h2.fr0 F
  · exact h3.fr0 F
set_option maxHeartbeats 4000000 in
set_option maxRecDepth 100000 in
theorem form_any {x : Dd} {B : Option Addr} {e : Nat} {w : World} (h : RdB w (.slice B x.t.length e) x.t) (hm : mayD x = true) :
    Calls Try.prog 28 #[.agg #[.int .i64 x.kind, .slice B x.t.length e, .int .i64 x.rows, .int .i64 x.cols]] w fun e w' => ∃ v, e = .returned v ∧ RdB w' v (formD x) ∧ Fr0 w w' := by
  have hc := mayD_cases hm
  have HF := Lib.hid (show formD x = form x.kind.toNat ++ (if x.kind = 1 then textForm x.t else if x.kind = 2 then form x.rows.toNat ++ form x.cols.toNat else []) from rfl)
  have HT := Lib.hid (fun W (hf : Fr0 w W) => wireText_any (h.fr0 hf) (by have := mayD_len hm; omega))
  have BX := Lib.hid (Blk.new w #[.int .i64 x.kind, .slice B x.t.length e, .int .i64 x.rows, .int .i64 x.cols] 28)
  have FX := Lib.hid ((Fr0.refl w).alloc (.cells #[.int .i64 x.kind, .slice B x.t.length e, .int .i64 x.rows, .int .i64 x.cols] 28))
  have HFL := Lib.hid (formD_len hm)
  obtain ⟨D, hD⟩ : ∃ D, D = formD x := ⟨_, rfl⟩
  rw [← hD] at HF HFL ⊢
  clear hm hD h
  obtain ⟨k, t, r, c⟩ := x
  simp only at hc HF HT BX FX ⊢
  have TL := Lib.hid (show (textForm t).length = (form t.length).length + t.length by simp [textForm])
  rcases hc with ⟨rfl, h2, h3, rfl, rfl⟩ | ⟨rfl, ⟨h2, h3⟩, ⟨h4, h5⟩, rfl⟩ | ⟨h1, rfl, rfl, rfl⟩
  · have HN := Lib.hid (fun W => wnum_i 1 (by omega) (by omega) W)
    have HD := Lib.hid (show D = form 1 ++ textForm t from HF.out)
    have hf1 := form_len_le (n := 1) (by omega)
    have hf2 : (textForm t).length ≤ 100 := by have := form_len_le (n := t.length) (by omega); have := TL.out; omega
    obtain ⟨f1, hg1⟩ : ∃ f, f = form 1 := ⟨_, rfl⟩
    obtain ⟨f2, hg2⟩ : ∃ f, f = textForm t := ⟨_, rfl⟩
    have HN0 := Lib.hid (fun W => show Calls Try.prog 44 #[.int .u64 1] W fun e w' => ∃ v, e = .returned v ∧ w'.ownsRow W.heap.size 5 1 v f1.length (byts f1) ∧ Fr0 W w' from by rw [hg1]; exact HN.out W)
    rw [← hg1, ← hg2] at HD
    rw [← hg1] at hf1
    rw [← hg2] at hf2 HT
    obtain ⟨n1, hn1⟩ : ∃ f, f = f1.length := ⟨_, rfl⟩
    obtain ⟨n2, hn2⟩ : ∃ f, f = f2.length := ⟨_, rfl⟩
    rw [← hn1] at HN0 hf1
    rw [← hn2] at hf2 HT
    have HL := Lib.hid (show D.length = n1 + n2 by rw [HD.out, List.length_append, hn1, hn2])
    clear HF h2 h3 HN hg1 hg2 hn1 hn2 TL HFL
    go_enter Try.func28, Try.ntmps28
    go_wp2_with (first
      | (go_at_call 44; refine (HN0.out _).mono ?_; rintro e w1 ⟨v1, rfl, hown, hf⟩; have O1 := Lib.hid (own_baseW hown (FX.out).size); have F1 := Lib.hid (Fr0.trans FX.out hf); have c0 := ((BX.out).fr0 hf).cell 0 rfl; have c1 := ((BX.out).fr0 hf).cell 1 rfl; clear hown hf)
      | (go_at_call 45; refine (HT.out _ F1.out).mono ?_; rintro e w2 ⟨v2, rfl, hown, hf⟩; have O2 := Lib.hid (own_fr O1.out hf (fun _ _ h => h)); have R2 := Lib.hid (Rd.of_own hown); have F2 := Lib.hid (Fr0.trans F1.out hf); clear hown hf)
      | (at_builtin; refine app_bytes rfl _ _ rfl F2.out O2.out rfl R2.out rfl (by omega) ?_; intro A3 c3 w3 hown hf; have O3 := Lib.hid hown; have F3 := Lib.hid hf; clear hown hf))
    go_ret
    exact ⟨_, rfl, by have h3 := O3.out; rw [← HD.out] at h3; exact rdb_of (Rd.of_own h3), F3.out⟩
  · have HN := Lib.hid (fun W => wnum_i 2 (by omega) (by omega) W)
    have HN1 := Lib.hid (fun W => wnum_i r (by omega) (by omega) W)
    have HN2 := Lib.hid (fun W => wnum_i c (by omega) (by omega) W)
    have HD := Lib.hid (show D = form 2 ++ (form r.toNat ++ form c.toNat) from HF.out)
    have w1 : IntKind.u64.wrap r = r := by show r % 18446744073709551616 = _; omega
    have w2 : IntKind.u64.wrap c = c := by show c % 18446744073709551616 = _; omega
    obtain ⟨f1, hf1⟩ : ∃ f, f = form 2 := ⟨_, rfl⟩
    obtain ⟨f2, hf2⟩ : ∃ f, f = form r.toNat := ⟨_, rfl⟩
    obtain ⟨f3, hf3⟩ : ∃ f, f = form c.toNat := ⟨_, rfl⟩
    have HN0 := Lib.hid (fun W => show Calls Try.prog 44 #[.int .u64 2] W fun e w' => ∃ v, e = .returned v ∧ w'.ownsRow W.heap.size 5 1 v f1.length (byts f1) ∧ Fr0 W w' from by rw [hf1]; exact HN.out W)
    rw [← hf1, ← hf2, ← hf3] at HD
    rw [← hf2] at HN1
    rw [← hf3] at HN2
    have JF := Lib.hid (fun (v1 v2 v3 : Value) => (show joined [(v1, f1), (v2, f2), (v3, f3)] = D by rw [HD.out]; simp [joined]))
    have hfl : D.length ≤ 100 := by have := HFL.out; omega
    clear HF HN hf1 hf2 hf3 HT HFL TL
    go_enter Try.func28, Try.ntmps28
    go_upto_region 6 with (first
      | (go_at_call 44; refine (HN0.out _).mono ?_; rintro e w1 ⟨v1, rfl, hown, hf⟩; obtain ⟨A1, c1, rfl, hr, -⟩ := own_text hown; have P1 := Lib.hid hr; have F := Lib.hid (Fr0.drew (Fr0.trans FX.out hf)); have BY := Lib.hid (Blk.drew ((BX.out).fr0 hf)); have c0 := ((BX.out).fr0 hf).cell 0 rfl; clear hown hf hr))
    have P1 := Lib.hid (show RdB w1.drew (.slice A1 f1.length c1) f1 from (P1.out).fr0 ((Fr0.refl w1).drew))
    clear BX FX
    go_region_held_law (fun w' => w'.cell? ⟨w.heap.size, 0, none⟩ = some (.int .i64 2) ∧ w'.cell? ⟨w.heap.size, 1, none⟩ = some (.slice B 0 e) ∧ w'.cell? ⟨w.heap.size, 2, none⟩ = some (.int .i64 r) ∧ w'.cell? ⟨w.heap.size, 3, none⟩ = some (.int .i64 c))
      (first | exact ⟨(BY.out).cell 0 rfl, (BY.out).cell 1 rfl, (BY.out).cell 2 rfl, (BY.out).cell 3 rfl⟩ | exact ⟨((BY.out).alloc _).cell 0 rfl, ((BY.out).alloc _).cell 1 rfl, ((BY.out).alloc _).cell 2 rfl, ((BY.out).alloc _).cell 3 rfl⟩) (first
      | (have _q := P3; go_at_call 46; refine (concat_any (parts3 P1.out P2.out P3.out _) (by rw [JF.out]; omega)).mono ?_; rintro e w6 ⟨v, rfl, hown, hf⟩; rw [JF.out] at hown; have O := Lib.hid hown; replace F := Lib.hid (((F.out).alloc _).trans hf); replace BY := Lib.hid (Blk.fr0 ((BY.out).alloc _) hf); clear hf hown)
      | (have _q := P2; go_at_call 44; refine (HN2.out _).mono ?_; rintro e w4 ⟨v, rfl, hown, hf⟩; obtain ⟨A3, c3, rfl, hr, -⟩ := own_text hown; replace P1 := Lib.hid ((P1.out).fr0 hf); replace P2 := Lib.hid ((P2.out).fr0 hf); have P3 := Lib.hid hr; replace F := Lib.hid ((F.out).trans hf); replace BY := Lib.hid ((BY.out).fr0 hf); clear hf hown hr)
      | (go_at_call 44; refine (HN1.out _).mono ?_; rintro e w3 ⟨v, rfl, hown, hf⟩; obtain ⟨A2, c2, rfl, hr, -⟩ := own_text hown; replace P1 := Lib.hid ((P1.out).fr0 hf); have P2 := Lib.hid hr; replace F := Lib.hid ((F.out).trans hf); replace BY := Lib.hid ((BY.out).fr0 hf); clear hf hown hr))
    all_goals (go_wp2_with fail; go_ret; exact ⟨_, rfl, RdB.of_own O.out, F.out⟩)
  · have hk := Lib.hid h1
    have HN := Lib.hid (fun W => wnum_i k (by omega) (by omega) W)
    have HD := Lib.hid (show D = form k.toNat by rw [HF.out, if_neg (by omega), if_neg (by omega), List.append_nil])
    have b1 : (k == 1) = false := by simp; omega
    have b2 : (k == 2) = false := by simp; omega
    have w1 : IntKind.u64.wrap k = k := by show k % 18446744073709551616 = _; omega
    rw [← HD.out] at HN
    clear HF h1 HT TL HD
    go_enter Try.func28, Try.ntmps28
    go_wp2_with (first
      | (go_at_call 44; refine (HN.out _).mono ?_; rintro e w1 ⟨v1, rfl, hown, hf⟩; have O1 := Lib.hid hown; have F1 := Lib.hid (Fr0.trans FX.out hf); have c0 := ((BX.out).fr0 hf).cell 0 rfl; clear hown hf))
    go_ret
    exact ⟨_, rfl, RdB.of_own O1.out, F1.out⟩
end Go.Proofs.Ytcbllkkbpjobpaa
