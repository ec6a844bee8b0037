/- LinkCounts: each packet that is sent has the next nonce, in its direction, and opens as its text behind four bytes; one that is refused takes no nonce: the law returns true for any key, direction, number, texts and time. No condition. -/
import Derived.Test.YtgcjbbliaelkcaaLkJ2
import Derived.Test.YtgcjbbliaelkcaaWLits
import Derived.Test.YtgcjbbliaelkcaaQuiet
set_option linter.unusedSimpArgs false
set_option linter.unusedVariables false
namespace Go.Proofs.Ytgcjbbliaelkcaa
open Go.RowKit

theorem sent_newC (key : List UInt8) (d : Bool) (n : Nat) (a : Int) : sentLk (newLk key d n a) = newLk key d (n + 1) a := rfl
set_option maxHeartbeats 4000000 in
set_option maxRecDepth 100000 in
theorem linkCounts_any {code mark : List UInt8} {dn : Bool} {next : Nat} {lv : Value} {l : List (Value × List UInt8)} {now : Int} {w : World} (hc : code.length = 16) (hm : mark.length = 32) (hn : next < 18446744073709551616) (h : Rd w 1 lv l.length (flat bpC l)) (hz : ∀ x ∈ l, BpIn w x) (hnow : -9223372036854775808 ≤ now ∧ now ≤ 9223372036854775807) :
    Calls Try.prog 4 #[.agg (byts (code ++ mark)).toArray, .bool dn, .int .u64 (next : Int), lv, .int .i64 now] w fun e w' => e = .returned (.bool true) ∧ Fr0 w w' := by
  have l63 := h.le63
  obtain ⟨Al, cl, rfl, -, -, -⟩ := h.form
  have KN := Lib.hid known09_any
  have HK := Lib.hid (show (code ++ mark).length = 48 by rw [List.length_append, hc, hm])
  have FX := Lib.hid ((Fr0.refl w).alloc (.cells (byts (code ++ mark)).toArray 25))
  have BK := Lib.hid (Blk.new w (byts (code ++ mark)).toArray 25)
  have HCK := Lib.hid (show (Try.prog.info? 25).map (·.size) = some (byts (code ++ mark)).toArray.size by rw [show (byts (code ++ mark)).toArray.size = 48 by simp [byts, hc, hm]]; kernel_rfl)
  by_cases h1 : 9223372036854775808 < next
  · have HN := Lib.hid (fun W => lnew_bad (key := code ++ mark) (dn := dn) (n := next) (addr := 3) (w := W) hn (.inl h1))
    obtain ⟨ck, hck⟩ : ∃ c, c = (byts (code ++ mark)).toArray := ⟨_, rfl⟩
    rw [← hck] at FX BK HCK HN ⊢
    obtain ⟨nl, hnl⟩ : ∃ n, n = l.length := ⟨_, rfl⟩
    rw [← hnl]
    by_cases h2 : 30 < nl
    · have t2 : decide ((30 : Int) < (nl : Int)) = true := decide_eq_true (by omega)
      clear h1 h2 hck hnl hc hm hn h hz hnow l63 HK
      go_enter Try.func4, Try.ntmps4
      go_wp2_with (first
        | (have _q := K1; go_at_call 9; refine (HN.out _).mono ?_; rintro e w2 ⟨rfl, hf⟩; have F2 := Lib.hid (Fr0.trans F1.out hf); clear hf)
        | (go_at_call 8; refine (KN.out _).mono ?_; rintro e w1 ⟨rfl, hf⟩; have F1 := Lib.hid (Fr0.trans FX.out hf); have K1 := Lib.hid ((BK.out).fr0 hf); clear hf)
        | (refine list_load_blk rfl 25 _ rfl w.heap.size rfl 25 ck K1.out _ Try.underlying25 rfl HCK.out ?_))
      go_ret
      exact ⟨rfl, F2.out⟩
    · have t2 : decide ((30 : Int) < (nl : Int)) = false := decide_eq_false (by omega)
      clear h1 h2 hck hnl hc hm hn h hz hnow l63 HK
      go_enter Try.func4, Try.ntmps4
      go_wp2_with (first
        | (have _q := K1; go_at_call 9; refine (HN.out _).mono ?_; rintro e w2 ⟨rfl, hf⟩; have F2 := Lib.hid (Fr0.trans F1.out hf); clear hf)
        | (go_at_call 8; refine (KN.out _).mono ?_; rintro e w1 ⟨rfl, hf⟩; have F1 := Lib.hid (Fr0.trans FX.out hf); have K1 := Lib.hid ((BK.out).fr0 hf); clear hf)
        | (refine list_load_blk rfl 25 _ rfl w.heap.size rfl 25 ck K1.out _ Try.underlying25 rfl HCK.out ?_))
      go_ret
      exact ⟨rfl, F2.out⟩
  have HN := Lib.hid (fun W => show Calls Try.prog 9 #[.agg (byts (code ++ mark)).toArray, .bool dn, .int .u64 (next : Int), .int .i64 3] W (fun e w' => ∃ p, e = .returned (.tuple #[.pointer (some ⟨p, 0, none⟩), .int .i64 0]) ∧ LkV w' p (newLk (code ++ mark) dn next 3) ∧ W.heap.size ≤ p ∧ Fr0 W w') from lnew_good HK.out (by omega) (by decide))
  by_cases h2 : 30 < l.length ∨ now < 0 ∨ 1099511627776 < now
  · obtain ⟨nl, hnl⟩ : ∃ n, n = l.length := ⟨_, rfl⟩
    rw [← hnl] at h2 ⊢
    have q4 : decide ((30 : Int) < (nl : Int)) = true ∨ decide ((30 : Int) < (nl : Int)) = false ∧ (decide (now < 0) = true ∨ decide (now < 0) = false ∧ decide ((1099511627776 : Int) < now) = true) := by
      by_cases a1 : 30 < nl
      · exact .inl (decide_eq_true (by omega))
      by_cases a2 : now < 0
      · exact .inr ⟨decide_eq_false (by omega), .inl (decide_eq_true a2)⟩
      · exact .inr ⟨decide_eq_false (by omega), .inr ⟨decide_eq_false a2, decide_eq_true (by omega)⟩⟩
    obtain ⟨ck, hck⟩ : ∃ c, c = (byts (code ++ mark)).toArray := ⟨_, rfl⟩
    rw [← hck] at FX BK HCK HN ⊢
    clear h1 h2 hck hnl hc hm hn h hz hnow l63 HK
    rcases q4 with q4 | ⟨q4, q5 | ⟨q5, q6⟩⟩
    all_goals (
      go_enter Try.func4, Try.ntmps4
      go_wp2_with (first
        | (have _q := K1; go_at_call 9; refine (HN.out _).mono ?_; rintro e w2 ⟨p2, rfl, -, -, hf⟩; have F2 := Lib.hid (Fr0.trans F1.out hf); clear hf)
        | (go_at_call 8; refine (KN.out _).mono ?_; rintro e w1 ⟨rfl, hf⟩; have F1 := Lib.hid (Fr0.trans FX.out hf); have K1 := Lib.hid ((BK.out).fr0 hf); clear hf)
        | (refine list_load_blk rfl 25 _ rfl w.heap.size rfl 25 ck K1.out _ Try.underlying25 rfl HCK.out ?_))
      go_ret
      exact ⟨rfl, F2.out⟩)
  have hl30 : l.length ≤ 30 := by omega
  have hnw : 0 ≤ now ∧ now ≤ 1099511627776 := by omega
  have t3 : decide ((30 : Int) < (l.length : Int)) = false := decide_eq_false (by omega)
  have t4 : decide (now < 0) = false := decide_eq_false (by omega)
  have t5 : decide ((1099511627776 : Int) < now) = false := decide_eq_false (by omega)
  obtain ⟨S, hS⟩ : ∃ f : Nat → Lk, f = fun n => newLk (code ++ mark) dn n 3 := ⟨_, rfl⟩
  have HS0 : ∀ n, newLk (code ++ mark) dn n 3 = S n := fun n => by rw [hS]
  have HSG := Lib.hid (fun W p v (n : Nat) (t : List UInt8) (h : LkV W p (S n)) (hn : n < 9223372036854775808) (ht : RdB W v t) (hl : t.length ≤ 1196) => show Calls Try.prog 10 #[.pointer (some ⟨p, 0, none⟩), .int .i64 now, v] W (fun e w' => ∃ A c, e = .returned (.tuple #[.slice A (t.length + 28) c, .int .i64 0]) ∧ OwN w' (.slice A (t.length + 28) c) (t.length + 28) (pkL code mark dn n (now % 65535).toNat 65535 t) ∧ LkV w' p (S (n + 1)) ∧ Fr1 p W w') by
    rw [hS] at h ⊢
    have h2 := send_pk (text := t) (now := now) h rfl ht rfl hc hm hnw hl hn (show (0 : Int) ≤ 0 ∧ (0 : Int) ≤ 65535 by decide) (show (0 : Int) ≤ 0 ∧ (0 : Int) ≤ 1099511627776 by decide)
    rw [show echoV (newLk (code ++ mark) dn n 3) now = 65535 from by unfold echoV newLk; rw [if_pos (.inl ⟨rfl, rfl, rfl⟩)], show (65535 : Int).toNat = 65535 from rfl] at h2
    exact h2)
  have HSB := Lib.hid (fun W p v (n : Nat) (t : List UInt8) (h : LkV W p (S n)) (hb : 1196 < t.length ∨ 9223372036854775808 ≤ n) (ht : RdB W v t) => show Calls Try.prog 10 #[.pointer (some ⟨p, 0, none⟩), .int .i64 now, v] W (fun e w' => ∃ E, e = .returned (.tuple #[.slice none 0 0, .int .i64 E]) ∧ (E != 0) = true ∧ Fr0 W w') by
    rw [hS] at h
    have he : sendE (newLk (code ++ mark) dn n 3) now t.length ≠ 0 := by
      unfold sendE
      rw [if_neg (by omega)]
      split
      · decide
      · rw [if_pos (show 9223372036854775808 ≤ (newLk (code ++ mark) dn n 3).next from (show 9223372036854775808 ≤ n by omega))]; decide
    refine (send_bad (text := t) (now := now) h rfl ht he).mono ?_
    rintro e w' ⟨rfl, hf⟩
    exact ⟨_, rfl, bne_iff_ne.2 he, hf⟩)
  have HNX := Lib.hid (fun W p (n : Nat) (h : LkV W p (S n)) => show Calls Try.prog 12 #[.pointer (some ⟨p, 0, none⟩)] W (fun e w' => e = .returned (.int .u64 (n : Int)) ∧ Fr0 W w') by
    rw [hS] at h
    exact lnext_any h rfl)
  have HOP := Lib.hid (fun W v (n x : Nat) (t : List UInt8) (hr : RdB W v (pkL code mark dn n x 65535 t)) (hn : n < 9223372036854775808) (hl : t.length ≤ 1196) => show Calls Try.prog 13 #[.agg (byts (code ++ mark)).toArray, v] W (fun e w' => ∃ A c, e = .returned (.tuple #[.agg #[.bool dn, .int .u64 (n : Int)], .slice A (t.length + 4) c, .int .i64 0]) ∧ RdB w' (.slice A (t.length + 4) c) (fixForm x 2 ++ fixForm 65535 2 ++ t) ∧ Fr0 W w') by
    refine (open_good hc hm hr (by rw [pkL_len]; omega) (by rw [pkL_len]; omega)).mono ?_
    rintro e w' ⟨v, rfl, hr0, hf⟩
    rw [pkL_open code mark (d := dn) (x := x) (y := 65535) hn hl] at hr0 ⊢
    obtain ⟨A, c, rfl, -, -, -⟩ := hr0.form
    have e4 : (fixForm x 2 ++ fixForm 65535 2 ++ t).length = t.length + 4 := by rw [List.length_append, List.length_append, fixForm_len, fixForm_len]; omega
    have hrr := hr0.rd
    simp only [] at hrr
    rw [e4] at hrr ⊢
    exact ⟨A, c, rfl, hrr, hf⟩)
  have HSL := Lib.hid (fun W A c (n x : Nat) (t : List UInt8) (hr : RdB W (.slice A (t.length + 4) c) (fixForm x 2 ++ fixForm 65535 2 ++ t)) => show ∃ A', (∀ w', (Instr.slice 32 (.slice A (t.length + 4) c) (some (.int .i64 4)) none none).run Try.prog w' = .ok (.slice A' t.length (c - 4)) w') ∧ RdB W (.slice A' t.length (c - 4)) t by
    have e4 : (fixForm x 2 ++ fixForm 65535 2 ++ t).length = t.length + 4 := by rw [List.length_append, List.length_append, fixForm_len, fixForm_len]; omega
    have hr2 : RdB W (.slice A (fixForm x 2 ++ fixForm 65535 2 ++ t).length c) (fixForm x 2 ++ fixForm 65535 2 ++ t) := by rw [e4]; exact hr
    obtain ⟨A', s1, r1, -⟩ := slice_from (P := Try.prog) (T := 32) Try.underlying32 u8_size hr2 (k := 4) (by rw [e4]; omega) (4 : Int) rfl
    rw [e4, Nat.add_sub_cancel] at s1 r1
    rw [show (fixForm x 2 ++ fixForm 65535 2 ++ t).drop 4 = t from List.drop_left' (by rw [List.length_append, fixForm_len, fixForm_len])] at r1
    exact ⟨A', s1, r1⟩)
  have HCE := Lib.hid (fun W (hf : Fr0 w W) (i : Nat) (hi : i < l.length) => show ∃ g off, Al = some ⟨g, off, none⟩ ∧ i < cl ∧ W.cell? ⟨g, off + i, none⟩ = some l[i].1 by
    obtain ⟨g, off, hA, hic, -, hcc⟩ := Rd.cellA (h.fr0 hf) hi
    refine ⟨g, off, hA, hic, ?_⟩
    have := hcc 0 l[i].1 (by simpa using flat_bp_at l i hi)
    simpa using this)
  have HRD := Lib.hid (fun W (hf : Fr0 w W) (i : Nat) (hi : i < l.length) => show RdB W l[i].1 l[i].2 from RdB.fr0 (hz _ (List.getElem_mem hi)) hf)
  rw [HS0] at HN
  obtain ⟨ck, hck⟩ : ∃ c, c = (byts (code ++ mark)).toArray := ⟨_, rfl⟩
  rw [← hck] at BK HCK FX HN HOP ⊢
  obtain ⟨x, hx⟩ : ∃ x, x = (now % 65535).toNat := ⟨_, rfl⟩
  rw [← hx] at HSG
  obtain ⟨nl, hnl⟩ : ∃ n, n = l.length := ⟨_, rfl⟩
  rw [← hnl] at t3 l63 hl30 ⊢
  have HNL := Lib.hid hnl
  have H30 := Lib.hid hl30
  have HNE := Lib.hid (show next ≤ 9223372036854775808 by omega)
  clear HS0 hS hck hx hnl hc hm h hz hnow hn h1 h2 hl30 hnw HK
  go_enter Try.func4, Try.ntmps4
  go_upto_region 10 with (first
    | (have _q := K1; go_at_call 9; refine (HN.out _).mono ?_; rintro e w2 ⟨p, rfl, hL, hl, hf⟩; have F2 := Lib.hid (Fr0.trans F1.out hf); have U2 := Lib.hid hL; have LU := Lib.hid (Nat.le_trans (F1.out).size hl); have K2 := Lib.hid ((K1.out).fr0 hf); have NK := Lib.hid (show w.heap.size ≠ p from by have := (K1.out).lt; omega); clear hL hl hf)
    | (go_at_call 8; refine (KN.out _).mono ?_; rintro e w1 ⟨rfl, hf⟩; have F1 := Lib.hid (Fr0.trans FX.out hf); have K1 := Lib.hid ((BK.out).fr0 hf); clear hf)
    | (refine list_load_blk rfl 25 _ rfl w.heap.size rfl 25 ck K1.out _ Try.underlying25 rfl HCK.out ?_))
  go_loopw [13, 14] (fun v13 v14 wr => ∃ i n : Nat, i ≤ nl ∧ n ≤ 9223372036854775808 ∧ v14 = .int .i64 (i : Int) ∧ v13 = .int .u64 (n : Int) ∧ LkV wr p (S n) ∧ Blk wr w.heap.size ck 25 ∧ Fr0 w wr) (fun _ v14 _ => nl - (intOf v14).toNat)
  case atStart => exact ⟨0, next, by omega, HNE.out, rfl, rfl, U2.out, K2.out, F2.out⟩
  case round =>
    obtain ⟨i, n, hi, hn, rfl, rfl, hU, hK, hF⟩ := hrel
    have U := Lib.hid hU
    have F := Lib.hid hF
    have K := Lib.hid hK
    clear hU hF hK U2 F1 F2 K1 K2
    by_cases hlt : i < nl
    · have tl : decide ((i : Int) < (nl : Int)) = true := decide_eq_true (by omega)
      have tl' : decide (i < nl) = true := decide_eq_true hlt
      have qi : IntKind.i64.wrap ((i : Int) + 1) = (i : Int) + 1 := IntWalk.i64_in _ (by have := H30.out; omega)
      have hil : i < l.length := by rw [← HNL.out]; exact hlt
      obtain ⟨g, off, hA, hic, ci⟩ := HCE.out wr F.out i hil
      have hr := HRD.out wr F.out i hil
      have HRi := Lib.hid (fun W hf => HRD.out W hf i hil)
      have HCi := Lib.hid (fun W hf => HCE.out W hf i hil)
      obtain ⟨t, ht⟩ : ∃ t, t = l[i].2 := ⟨_, rfl⟩
      obtain ⟨tv, htv⟩ : ∃ t, t = l[i].1 := ⟨_, rfl⟩
      rw [← ht, ← htv] at hr HRi
      rw [← htv] at ci HCi
      obtain ⟨At, ct, rfl, -, -, -⟩ := hr.form
      obtain ⟨nt, hnt⟩ : ∃ n, n = t.length := ⟨_, rfl⟩
      rw [← hnt] at hr HRi ci HCi
      have hi0 : (0 : Int) ≤ (i : Int) := by omega
      have hi1 : (i : Int) < (nl : Int) := by omega
      subst hA
      have HC2 := Lib.hid (fun (W : World) (hf : Fr0 w W) => show W.cell? ⟨g, off + i, none⟩ = some (.slice At nt ct) by
        obtain ⟨g', off', hA', -, hcc⟩ := HCi.out W hf
        injection hA' with e1; injection e1 with e1 e2; subst e1 e2; exact hcc)
      have HNT := Lib.hid hnt
      have HIL := Lib.hid hlt
      by_cases hx : 1300 < nt
      · have tx : decide ((1300 : Int) < (nt : Int)) = true := decide_eq_true (by omega)
        clear hx hlt hil hnt ht htv hi hn hr HCi
        go_wp2_with fail
        go_ret
        exact ⟨rfl, F.out⟩
      have tx : decide ((1300 : Int) < (nt : Int)) = false := decide_eq_false (by omega)
      by_cases hb : 1196 < nt ∨ 9223372036854775808 ≤ n
      · have HB := Lib.hid (show 1196 < t.length ∨ 9223372036854775808 ≤ n by rw [← hnt]; exact hb)
        have HNN := Lib.hid hn
        have qb : decide ((nt : Int) ≤ 1196) = false ∨ decide ((nt : Int) ≤ 1196) = true ∧ decide ((n : Int) < 9223372036854775808) = false := by
          by_cases a1 : 1196 < nt
          · exact .inl (decide_eq_false (by omega))
          · exact .inr ⟨decide_eq_true (by omega), decide_eq_false (by omega)⟩
        clear hx hlt hil hnt ht htv hi hn hb HCi
        rcases qb with qb | ⟨qb, qb2⟩
        all_goals (
          go_wp2_with (first
            | (have _q := U5; go_at_call 12; refine (HNX.out _ _ _ U5.out).mono ?_; rintro e w6 ⟨rfl, hf⟩; have F6 := Lib.hid (Fr0.trans F5.out hf); have U6 := Lib.hid ((U5.out).fr0 hf); have K6 := Lib.hid ((K5.out).fr0 hf); have ci := HC2.out _ F6.out; clear hf)
            | (go_at_call 10; refine (HSB.out _ _ _ _ _ U.out HB.out hr).mono ?_; rintro e w5 ⟨E, rfl, hE, hf⟩; have F5 := Lib.hid (Fr0.trans F.out hf); have U5 := Lib.hid ((U.out).fr0 hf); have K5 := Lib.hid ((K.out).fr0 hf); have ci := HC2.out _ F5.out; clear hf))
          exact ⟨⟨i + 1, n, by have := HIL.out; omega, HNN.out, by simp, rfl, U6.out, K6.out, F6.out⟩, by have := HIL.out; simp [intOf]; omega⟩)
      · have hl : t.length ≤ 1196 := by omega
        have hn2 : n < 9223372036854775808 := by omega
        have HSX := Lib.hid (fun W (h : LkV W p (S n)) (hr : RdB W (.slice At nt ct) t) => HSG.out W p (.slice At nt ct) n t h hn2 hr hl)
        have HOX := Lib.hid (fun W v (hr : RdB W v (pkL code mark dn n x 65535 t)) => HOP.out W v n x t hr hn2 hl)
        have HSS := Lib.hid (fun W A c hr => HSL.out W A c n x t hr)
        rw [← hnt] at HSX HOX HSS
        obtain ⟨pk, hpk⟩ : ∃ c, c = pkL code mark dn n x 65535 t := ⟨_, rfl⟩
        rw [← hpk] at HSX HOX
        obtain ⟨tt, htt⟩ : ∃ c, c = fixForm x 2 ++ fixForm 65535 2 ++ t := ⟨_, rfl⟩
        rw [← htt] at HOX HSS
        obtain ⟨mp, hmp⟩ : ∃ m, m = nt + 28 := ⟨_, rfl⟩
        rw [← hmp] at HSX
        obtain ⟨m4, hm4⟩ : ∃ m, m = nt + 4 := ⟨_, rfl⟩
        rw [← hm4] at HOX HSS
        have q4 : IntKind.i64.wrap ((nt : Int) + 4) = (m4 : Int) := by rw [show (nt : Int) + 4 = (m4 : Int) by omega]; exact IntWalk.i64_in _ (by omega)
        have q5 : IntKind.u64.wrap ((n : Int) + 1) = ((n + 1 : Nat) : Int) := by rw [IntKind.wrap_u64]; omega
        have HN1 := Lib.hid (show n + 1 ≤ 9223372036854775808 by omega)
        clear hx hlt hil hnt ht htv hi hn hb HCi hl hn2 hpk htt hmp hm4
        go_upto_region 19 with (first
          | (have _q := F5; go_at_call 13; refine (HOX.out _ _ (P5.out).rd).mono ?_; rintro e w6 ⟨A6, c6, rfl, hr6, hf⟩; have F6 := Lib.hid ((Fr0.trans F5.out hf).alloc (.cells #[.bool dn, .int .u64 (n : Int)] 41)); have U6 := Lib.hid (((U5.out).fr0 hf).fr0 ((Fr0.refl w6).alloc (.cells #[.bool dn, .int .u64 (n : Int)] 41))); have K6 := Lib.hid (((K5.out).fr0 hf).alloc (.cells #[.bool dn, .int .u64 (n : Int)] 41)); have Z6 := Lib.hid (Blk.new w6 #[.bool dn, .int .u64 (n : Int)] 41); obtain ⟨A7, hsl, hr7⟩ := HSS.out _ _ _ (hr6.fr0 ((Fr0.refl w6).alloc (.cells #[.bool dn, .int .u64 (n : Int)] 41))); have R7 := Lib.hid hr7; clear hf hr6 hr7)
          | (have _q := F5; refine list_load_blk rfl 25 _ rfl w.heap.size rfl 25 ck K5.out _ Try.underlying25 rfl HCK.out ?_)
          | (go_at_call 10; refine (HSX.out _ U.out hr).mono ?_; rintro e w5 ⟨A5, c5, rfl, ho, hL, hf⟩; have F5 := Lib.hid (Fr0.new F.out hf LU.out); have U5 := Lib.hid hL; have K5 := Lib.hid ((K.out).fr1 hf NK.out); have P5 := Lib.hid ho; clear hf hL ho))
        obtain ⟨wz, hwz⟩ : ∃ x, x = w6.alloc (.cells #[.bool dn, .int .u64 (n : Int)] 41) := ⟨_, rfl⟩
        rw [← hwz] at F6 U6 K6 Z6 R7 ⊢
        clear ci hr U F K U5 F5 K5 P5 hwz
        refine wp_region_class (fun W => Fr0 wz.drew W) (by kernel_rfl) (by kernel_rfl) (Fr0.refl _) ?_
        refine q_move rfl _ rfl ?_
        try simp only [Act.put, List.setIfInBounds_toArray, List.set_cons_zero, List.set_cons_succ]
        refine q_val rfl (fun W hW => by go_simp; try rfl) ?_
        try simp only [Act.put, List.setIfInBounds_toArray, List.set_cons_zero, List.set_cons_succ]
        refine q_move rfl _ rfl ?_
        try simp only [Act.put, List.setIfInBounds_toArray, List.set_cons_zero, List.set_cons_succ]
        refine q_val rfl (fun W hW => by go_simp; try rfl) ?_
        try simp only [Act.put, List.setIfInBounds_toArray, List.set_cons_zero, List.set_cons_succ]
        refine q_val (v := .bool dn) rfl (fun W hW => by have z0 := ((Z6.out).drew.fr0 hW).cell 0 rfl; go_simp; try rfl) ?_
        try simp only [Act.put, List.setIfInBounds_toArray, List.set_cons_zero, List.set_cons_succ]
        refine q_move rfl _ rfl ?_
        try simp only [Act.put, List.setIfInBounds_toArray, List.set_cons_zero, List.set_cons_succ]
        refine q_val (v := .bool false) rfl (fun W hW => by go_simp; try rfl) ?_
        try simp only [Act.put, List.setIfInBounds_toArray, List.set_cons_zero, List.set_cons_succ]
        refine q_val (v := .bool false) rfl (fun W hW => by go_simp; try rfl) ?_
        try simp only [Act.put, List.setIfInBounds_toArray, List.set_cons_zero, List.set_cons_succ]
        refine q_move rfl _ rfl ?_
        try simp only [Act.put, List.setIfInBounds_toArray, List.set_cons_zero, List.set_cons_succ]
        refine q_val rfl (fun W hW => by go_simp; try rfl) ?_
        try simp only [Act.put, List.setIfInBounds_toArray, List.set_cons_zero, List.set_cons_succ]
        refine q_val (v := .int .u64 (n : Int)) rfl (fun W hW => by have z1 := ((Z6.out).drew.fr0 hW).cell 1 rfl; go_simp; try rfl) ?_
        try simp only [Act.put, List.setIfInBounds_toArray, List.set_cons_zero, List.set_cons_succ]
        refine q_move rfl _ rfl ?_
        try simp only [Act.put, List.setIfInBounds_toArray, List.set_cons_zero, List.set_cons_succ]
        refine q_val (v := .bool false) rfl (fun W hW => by go_simp; try rfl) ?_
        try simp only [Act.put, List.setIfInBounds_toArray, List.set_cons_zero, List.set_cons_succ]
        refine q_val (v := .bool false) rfl (fun W hW => by go_simp; try rfl) ?_
        try simp only [Act.put, List.setIfInBounds_toArray, List.set_cons_zero, List.set_cons_succ]
        refine q_move rfl _ rfl ?_
        try simp only [Act.put, List.setIfInBounds_toArray, List.set_cons_zero, List.set_cons_succ]
        refine q_move rfl _ rfl ?_
        try simp only [Act.put, List.setIfInBounds_toArray, List.set_cons_zero, List.set_cons_succ]
        refine q_val rfl (fun W hW => by go_simp; try rfl) ?_
        try simp only [Act.put, List.setIfInBounds_toArray, List.set_cons_zero, List.set_cons_succ]
        refine q_move rfl _ rfl ?_
        try simp only [Act.put, List.setIfInBounds_toArray, List.set_cons_zero, List.set_cons_succ]
        refine q_move rfl _ rfl ?_
        try simp only [Act.put, List.setIfInBounds_toArray, List.set_cons_zero, List.set_cons_succ]
        refine q_val rfl (fun W hW => by go_simp; try rfl) ?_
        try simp only [Act.put, List.setIfInBounds_toArray, List.set_cons_zero, List.set_cons_succ]
        refine q_val (v := .slice At nt ct) rfl (fun W hW => by have ci := HC2.out W (Fr0.trans (Fr0.drew F6.out) hW); go_simp; try rfl) ?_
        try simp only [Act.put, List.setIfInBounds_toArray, List.set_cons_zero, List.set_cons_succ]
        refine q_val rfl (fun W hW => by go_simp; try rfl) ?_
        try simp only [Act.put, List.setIfInBounds_toArray, List.set_cons_zero, List.set_cons_succ]
        refine q_val (v := .int .i64 (m4 : Int)) rfl (fun W hW => by go_simp; try rfl) ?_
        try simp only [Act.put, List.setIfInBounds_toArray, List.set_cons_zero, List.set_cons_succ]
        refine q_val (v := .bool false) rfl (fun W hW => by go_simp; try rfl) ?_
        try simp only [Act.put, List.setIfInBounds_toArray, List.set_cons_zero, List.set_cons_succ]
        refine q_val (v := .bool false) rfl (fun W hW => by go_simp; try rfl) ?_
        try simp only [Act.put, List.setIfInBounds_toArray, List.set_cons_zero, List.set_cons_succ]
        refine q_move rfl _ rfl ?_
        try simp only [Act.put, List.setIfInBounds_toArray, List.set_cons_zero, List.set_cons_succ]
        refine q_move rfl _ rfl ?_
        try simp only [Act.put, List.setIfInBounds_toArray, List.set_cons_zero, List.set_cons_succ]
        refine q_val (v := .slice A7 nt (c6 - 4)) rfl (fun W hW => by go_simp; try rfl) ?_
        try simp only [Act.put, List.setIfInBounds_toArray, List.set_cons_zero, List.set_cons_succ]
        refine q_val (v := .string (str t)) rfl (fun W hW => by have cs1 := conv_ownN HNT.out.symm (RdB.fr0 (RdB.fr0 R7.out ((Fr0.refl wz).drew)) hW); go_simp; try rfl) ?_
        try simp only [Act.put, List.setIfInBounds_toArray, List.set_cons_zero, List.set_cons_succ]
        refine q_move rfl _ rfl ?_
        try simp only [Act.put, List.setIfInBounds_toArray, List.set_cons_zero, List.set_cons_succ]
        refine q_move rfl _ rfl ?_
        try simp only [Act.put, List.setIfInBounds_toArray, List.set_cons_zero, List.set_cons_succ]
        refine q_val rfl (fun W hW => by go_simp; try rfl) ?_
        try simp only [Act.put, List.setIfInBounds_toArray, List.set_cons_zero, List.set_cons_succ]
        refine q_val (v := .slice At nt ct) rfl (fun W hW => by have ci := HC2.out W (Fr0.trans (Fr0.drew F6.out) hW); go_simp; try rfl) ?_
        try simp only [Act.put, List.setIfInBounds_toArray, List.set_cons_zero, List.set_cons_succ]
        refine q_val (v := .string (str t)) rfl (fun W hW => by have cs2 := conv_ownN HNT.out.symm (HRi.out W (Fr0.trans (Fr0.drew F6.out) hW)); go_simp; try rfl) ?_
        try simp only [Act.put, List.setIfInBounds_toArray, List.set_cons_zero, List.set_cons_succ]
        refine q_val (v := .bool false) rfl (fun W hW => by go_simp; try rfl) ?_
        try simp only [Act.put, List.setIfInBounds_toArray, List.set_cons_zero, List.set_cons_succ]
        refine q_val (v := .bool false) rfl (fun W hW => by go_simp; try rfl) ?_
        try simp only [Act.put, List.setIfInBounds_toArray, List.set_cons_zero, List.set_cons_succ]
        refine q_nil ?_
        intro w' hC
        have F8 := Lib.hid (Fr0.trans (Fr0.drew F6.out) hC)
        have U8 := Lib.hid ((U6.out).drew.fr0 hC)
        have K8 := Lib.hid ((Blk.drew K6.out).fr0 hC)
        clear F6 U6 K6 Z6 R7 hsl hC
        go_wp2_with (go_at_call 12; refine (HNX.out _ _ _ U8.out).mono ?_; rintro e w9 ⟨rfl, hf⟩; have F9 := Lib.hid (Fr0.trans F8.out hf); have U9 := Lib.hid ((U8.out).fr0 hf); have K9 := Lib.hid ((K8.out).fr0 hf); clear hf)
        exact ⟨⟨i + 1, n + 1, by have := HIL.out; omega, HN1.out, by simp, by simp, U9.out, K9.out, F9.out⟩, by have := HIL.out; simp [intOf]; omega⟩
    · have tl : decide ((i : Int) < (nl : Int)) = false := decide_eq_false (by omega)
      have tl' : decide (i < nl) = false := decide_eq_false hlt
      clear hlt hi hn
      go_wp2_with fail
      go_ret
      exact ⟨rfl, F.out⟩
namespace LinkCounts
open Go.ChangeShapes Go.WideShapes Go.ChangeAt
open Go.ChangeMaps (open_string shut_string)

theorem own : ownKnob Try.prog.godebug = none := by kernel_rfl
theorem laidOut : laidOutB Try.prog = true := by kernel_rfl

set_option maxRecDepth 100000 in
theorem lifted (os : Os) (started : os.Started) (H : Type) (enc : TypeId × Value → H) :
    ReturnsInHanded {} Try.checked os 4 .any (Rows.linkCountsSpec.pre6 enc Try.prog Try.f4 Rows.linkCountsRow.domain false) (Rows.linkCountsSpec.post enc Try.prog Try.f4 false true false false) := by
  refine returnsInHanded_of_change (C := Try.checked) own started (by kernel_rfl) Try.func4
    (ChangeSpec.witness6 (enc := enc) (C := Try.checked) false ⟨#[], #[.agg (Array.replicate 48 (.int .u8 0)), .bool false, .int .u64 0, .slice none 0 0, .int .i64 0], []⟩ 8 (by kernel_rfl) (by kernel_rfl) (by kernel_rfl) (by kernel_rfl)) ?_
  intro W base args ds gs before hval0 hW hcnd _
  have hval : ∀ (j : Nat) t v, Try.f4.params[j]? = some t → args[j]? = some v → Value.okWide Try.prog W .any base t v := hval0
  have hW' := hW
  obtain ⟨p, q, hA0, hV, rfl, hfz, hnd⟩ := hW
  have hA : DataW.TrodAll enc Try.prog W 0 (fun _ => true) true Try.f4.params.toList args.toList ds p := hA0
  rw [Try.params4] at hA hval
  obtain ⟨v0, vs0, d0', ds0, p0, q0, hargs, rfl, rfl, h0, r0⟩ := trodAll_cons hA
  obtain ⟨v1, vs1, d1', ds1, p1, q1, rfl, rfl, rfl, h1, r1⟩ := trodAll_cons r0
  obtain ⟨v2, vs2, d2', ds2, p2, q2, rfl, rfl, rfl, h2, r2⟩ := trodAll_cons r1
  obtain ⟨v3, vs3, d3', ds3, p3, q3, rfl, rfl, rfl, h3, r3⟩ := trodAll_cons r2
  obtain ⟨v4, vs4, d4', ds4, p4, q4, rfl, rfl, rfl, h4, r4⟩ := trodAll_cons r3
  obtain ⟨rfl, rfl, rfl⟩ := trodAll_nil r4
  obtain rfl : args = #[v0, v1, v2, v3, v4] := by cases args; simp_all
  obtain ⟨rfl, rfl⟩ := trodVars_none hV
  have k0 := h0
  have lt0 : ∀ x ∈ p0, x.block < W.heap.size := by obtain ⟨m, hm⟩ := k0; exact DataW.trod_lt m _ _ _ hm
  obtain ⟨code0, mark0, rfl, hc0, hm0⟩ := arg_key (hval 0 25 v0 rfl rfl) h0
  obtain ⟨b1, rfl, rfl, rfl⟩ := open_bool Try.underlying4 (hval 1 4 v1 rfl rfl) h1
  obtain ⟨n2, rfl, rfl, rfl, hn2⟩ := open_int Try.underlying31 (hval 2 31 v2 rfl rfl) h2
  obtain ⟨m2, rfl, hm2⟩ := lit_u64 hn2
  have k3 := h3
  have lt3 : ∀ x ∈ p3, x.block < W.heap.size := by obtain ⟨m, hm⟩ := k3; exact DataW.trod_lt m _ _ _ hm
  obtain ⟨A3, n3, c3, rfl⟩ := okWide_slice Try.underlying39 (hval 3 39 v3 rfl rfl)
  obtain ⟨fuel3, hf3⟩ := h3
  obtain ⟨l3, hy3, hz3⟩ := arg_of bpC (BpIn W) (by decide) bpC_len Try.underlying39 (by kernel_rfl) (fun n cs x h => (fun h => read_bp Try.underlying32 Try.underlying5 (by kernel_rfl) h) h) hf3
  obtain ⟨n4, rfl, rfl, rfl, hn4⟩ := open_int Try.underlying3 (hval 4 3 v4 rfl rfl) h4
  have hm4 := lit_i64 hn4
  clear hA0 hval0
  refine (linkCounts_any hc0 hm0 hm2 hy3 hz3 hm4).mono fun e W' ⟨he, hfr⟩ => ?_
  have bel : Below W.heap.size W W' := Fr0.below hfr
  subst he
  exact ⟨_, rfl, _, _, _, [], _, [], hW', trodAll_mk1 (shut_bool Try.underlying4 _), (trodAll_cons_mk (Below.trod laidOut (by kernel_rfl) (of_decide_eq_true (by kernel_rfl)) k0 bel lt0) (trodAll_cons_mk (shut_bool Try.underlying4 _) (trodAll_cons_mk (shut_int Try.underlying31 hn2) (trodAll_cons_mk (Below.trod laidOut (by kernel_rfl) (of_decide_eq_true (by kernel_rfl)) k3 bel lt3) (trodAll_cons_mk (shut_int Try.underlying3 hn4) trodAll_mk0))))), rfl, bel.frame _, fun h => by cases h⟩

theorem over : Rows.linkCountsRow.holds Try.pinned (OpenSpec.ofChange Rows.linkCountsSpec) :=
  OpenClaim.holds_of_wide 4 Try.f4 rfl rfl rfl rfl rfl rfl rfl ⟨rfl, rfl, rfl, rfl, rfl⟩ rfl rfl rfl rfl rfl (by kernel_rfl) Try.func4 (by kernel_rfl)
    (of_decide_eq_true (by kernel_rfl)) (by unfold Func.isWrapper; first | (rw [if_pos (by decide +kernel)]; kernel_rfl) | (rw [if_neg (by decide +kernel)]; exact ⟨rfl, rfl⟩))
    (fun os started H enc _ => lifted os started H enc)

theorem proved : Rows.LinkCountsSaid := over
#print axioms proved
end LinkCounts
end Go.Proofs.Ytgcjbbliaelkcaa
