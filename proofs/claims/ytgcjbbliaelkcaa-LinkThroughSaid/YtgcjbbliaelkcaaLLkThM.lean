/- LinkThrough: what one end sends is heard by the other one as it was; heard again, or later, or with a tag that was changed, or by the one that sent it, it changes nothing: the law returns true for any key and packets. No condition. -/
import Derived.Test.YtgcjbbliaelkcaaLkLateM
set_option linter.unusedSimpArgs false
set_option linter.unusedVariables false
namespace Go.Proofs.Ytgcjbbliaelkcaa
open Go.RowKit

set_option maxHeartbeats 16000000 in
set_option maxRecDepth 100000 in
theorem linkThrough_any {code mark : List UInt8} {lv : Value} {l : List (Value × WayD)} {w : World} (hc : code.length = 16) (hm : mark.length = 32) (h : Rd w 5 lv l.length (flat wayC l)) (hz : ∀ x ∈ l, WayIn w x) :
    Calls Try.prog 7 #[.agg (byts (code ++ mark)).toArray, lv] w fun e w' => e = .returned (.bool true) ∧ Fr0 w w' := by
  have l63 := h.le63
  obtain ⟨Al, cl, rfl, -, -, -⟩ := h.form
  have KN := Lib.hid known09_any
  have HK := Lib.hid (show (code ++ mark).length = 48 by rw [List.length_append, hc, hm])
  have FX := Lib.hid ((Fr0.refl w).alloc (.cells (byts (code ++ mark)).toArray 25))
  have BK := Lib.hid (Blk.new w (byts (code ++ mark)).toArray 25)
  have HCK := Lib.hid (show (Try.prog.info? 25).map (·.size) = some (byts (code ++ mark)).toArray.size by rw [show (byts (code ++ mark)).toArray.size = 48 by simp [byts, hc, hm]]; kernel_rfl)
  have HN1 := Lib.hid (fun W => show Calls Try.prog 9 #[.agg (byts (code ++ mark)).toArray, .bool false, .int .u64 0, .int .i64 1] W (fun e w' => ∃ p, e = .returned (.tuple #[.pointer (some ⟨p, 0, none⟩), .int .i64 0]) ∧ LkV w' p (newLk (code ++ mark) false 0 1) ∧ W.heap.size ≤ p ∧ Fr0 W w') from lnew_good (n := 0) HK.out (by decide) (by decide))
  have HN2 := Lib.hid (fun W => show Calls Try.prog 9 #[.agg (byts (code ++ mark)).toArray, .bool true, .int .u64 0, .int .i64 2] W (fun e w' => ∃ p, e = .returned (.tuple #[.pointer (some ⟨p, 0, none⟩), .int .i64 0]) ∧ LkV w' p (newLk (code ++ mark) true 0 2) ∧ W.heap.size ≤ p ∧ Fr0 W w') from lnew_good (n := 0) HK.out (by decide) (by decide))
  have I0 := Lib.hid (show LkI (code ++ mark) false 0 (newLk (code ++ mark) false 0 1) from ⟨rfl, rfl, rfl, Nat.le_refl _, (show (0 : Int) ≤ 0 ∧ (0 : Int) ≤ 65535 by decide), (show (0 : Int) ≤ 0 ∧ (0 : Int) ≤ 1099511627776 by decide), (show mayM 0 0 0 by unfold mayM; decide)⟩)
  have J0 := Lib.hid (show LkI (code ++ mark) true 0 (newLk (code ++ mark) true 0 2) from ⟨rfl, rfl, rfl, Nat.le_refl _, (show (0 : Int) ≤ 0 ∧ (0 : Int) ≤ 65535 by decide), (show (0 : Int) ≤ 0 ∧ (0 : Int) ≤ 1099511627776 by decide), (show mayM 0 0 0 by unfold mayM; decide)⟩)
  have W0 := Lib.hid (show newsOk (newLk (code ++ mark) false 0 1) 0 from fun h => absurd (show false = true from h) (by decide))
  have V0 := Lib.hid (show newsOk (newLk (code ++ mark) true 0 2) 0 from fun h => absurd (show false = true from h) (by decide))
  obtain ⟨nl, hnl⟩ : ∃ n, n = l.length := ⟨_, rfl⟩
  by_cases h1 : 40 < nl
  · obtain ⟨ck, hck⟩ : ∃ c, c = (byts (code ++ mark)).toArray := ⟨_, rfl⟩
    rw [← hck] at FX BK HCK HN1 HN2 ⊢
    have t1 : decide ((40 : Int) < (nl : Int)) = true := decide_eq_true (by omega)
    rw [← hnl]
    clear h1 hck hnl hc hm h hz l63 HK I0 J0 W0 V0
    go_enter Try.func7, Try.ntmps7
    go_wp2_with (first
      | (have _q := F2; go_at_call 9; refine (HN2.out _).mono ?_; rintro e w3 ⟨p3, rfl, -, -, hf⟩; have F3 := Lib.hid (Fr0.trans F2.out hf); clear hf)
      | (have _q := F1; go_at_call 9; refine (HN1.out _).mono ?_; rintro e w2 ⟨p2, rfl, -, -, hf⟩; have F2 := Lib.hid (Fr0.trans F1.out hf); have K2 := Lib.hid ((K1.out).fr0 hf); clear hf)
      | (go_at_call 8; refine (KN.out _).mono ?_; rintro e w1 ⟨rfl, hf⟩; have F1 := Lib.hid (Fr0.trans FX.out hf); have K1 := Lib.hid ((BK.out).fr0 hf); clear hf)
      | (have _q := K2; refine list_load_blk rfl 25 _ rfl w.heap.size rfl 25 ck K2.out _ Try.underlying25 rfl HCK.out ?_)
      | (refine list_load_blk rfl 25 _ rfl w.heap.size rfl 25 ck K1.out _ Try.underlying25 rfl HCK.out ?_))
    go_ret
    exact ⟨rfl, F3.out⟩
  have t1 : decide ((40 : Int) < (nl : Int)) = false := decide_eq_false (by omega)
  have H40 := Lib.hid (show nl ≤ 40 by omega)
  -- Send, Next, Hear, Newest, nothing, in short
  have HSG := Lib.hid (fun W p (s : Lk) (dn : Bool) v (go : Int) (t : List UInt8) (h : LkV W p s) (hi : LkI (code ++ mark) dn 50 s) (hg : 0 ≤ go ∧ go ≤ 1073741824) (ht : RdB W v t) (hl : t.length ≤ 1196) => show Calls Try.prog 10 #[.pointer (some ⟨p, 0, none⟩), .int .i64 go, v] W (fun e w' => ∃ A c, e = .returned (.tuple #[.slice A (t.length + 28) c, .int .i64 0]) ∧ OwN w' (.slice A (t.length + 28) c) (t.length + 28) (pkL code mark dn s.next (go % 65535).toNat (echoV s go).toNat t) ∧ LkV w' p (sentLk s) ∧ Fr1 p W w') by
    have h2 := send_pk (text := t) (now := go) h hi.made ht hi.key hc hm ⟨hg.1, by omega⟩ hl (by have := hi.next; omega) hi.stamp hi.eat
    rw [hi.down] at h2
    exact h2)
  have HNX := Lib.hid (fun W p (s : Lk) (h : LkV W p s) (hm : s.made = true) => lnext_any h hm)
  have HNW := Lib.hid (fun W p (s : Lk) (h : LkV W p s) (hm : s.made = true) => lnewest_any h hm)
  have HAD := Lib.hid (fun W p (s : Lk) (h : LkV W p s) (hm : s.made = true) => laddr_any h hm)
  have HHE := Lib.hid (fun W p (s : Lk) (dn : Bool) v (now frm : Int) (n x y : Nat) (t : List UInt8) (h : LkV W p s) (hi : LkI (code ++ mark) dn 50 s) (hok : hearOk now frm) (hb : RdB W v (pkL code mark (!dn) n x y t)) (hn : n < 9223372036854775808) (hl : t.length ≤ 1196) (hx : x < 65535) (hy : y < 65536) (hnew : ¬ (s.heard = true ∧ n ≤ s.newest)) => show Calls Try.prog 11 #[.pointer (some ⟨p, 0, none⟩), .int .i64 now, .int .i64 frm, v] W (fun e w' => ∃ A c, e = .returned (.tuple #[.slice A t.length c, .bool true, .int .i64 0]) ∧ OwN w' (.slice A t.length c) t.length t ∧ LkV w' p (hearLk s now frm n x y) ∧ Fr1 p W w') from
    (hear_fresh h hi.made hok hi.key hc hm hb hn hl hx hy (by rw [hi.down]; cases dn <;> decide) hnew hi.may).mono (by
      rintro e w' ⟨A, c, rfl, ho, hL, hf⟩
      exact ⟨A, c, rfl, ⟨_, ho⟩, hL, hf⟩))
  have HHO := Lib.hid (fun W p (s : Lk) (dn : Bool) v (now frm : Int) (n x y : Nat) (t : List UInt8) (h : LkV W p s) (hi : LkI (code ++ mark) dn 50 s) (hok : hearOk now frm) (hb : RdB W v (pkL code mark (!dn) n x y t)) (hn : n < 9223372036854775808) (hl : t.length ≤ 1196) (hx : x < 65535) (hy : y < 65536) (hold : s.heard = true ∧ n ≤ s.newest) => show Calls Try.prog 11 #[.pointer (some ⟨p, 0, none⟩), .int .i64 now, .int .i64 frm, v] W (fun e w' => ∃ A c, e = .returned (.tuple #[.slice A t.length c, .bool false, .int .i64 0]) ∧ Fr0 W w') from
    (hear_again h hi.made hok hi.key hc hm hb hn hl hx hy (by rw [hi.down]; cases dn <;> decide) hold).mono (by
      rintro e w' ⟨A, c, rfl, ho, hf⟩
      exact ⟨A, c, rfl, hf⟩))
  have HNO := Lib.hid (fun W pf pt (sf st : Lk) (dn : Bool) A (mp c n x y : Nat) (t : List UInt8) (up : Bool) (tv : Value) (go takes wh : Int) (hF : LkV W pf sf) (hT : LkV W pt st) (hif : LkI (code ++ mark) dn 50 sf) (hit : LkI (code ++ mark) (!dn) 50 st) (hb : RdB W (.slice A mp c) (pkL code mark dn n x y t)) (hmp : mp = t.length + 28) (hold : st.heard = true ∧ n ≤ st.newest) (hn : n < 9223372036854775808) (hl : t.length ≤ 1196) (hx : x < 65535) (hy : y < 65536) (hgo : 0 ≤ go ∧ go ≤ 1073741824) (htv : RdB W tv t) => show Calls Try.prog 23 #[.pointer (some ⟨pf, 0, none⟩), .pointer (some ⟨pt, 0, none⟩), .slice A mp c, .agg #[.bool up, tv, .int .i64 go, .int .i64 takes, .int .i64 wh]] W (fun e w' => e = .returned (.bool true) ∧ Fr0 W w') from
    nothing_any hF hT hif.made hit.made hif.key hit.key hc hm (by rw [hif.down]; exact hb) hmp (by rw [hif.down, hit.down]; cases dn <;> decide) hold hn hl hx hy hgo htv)
  have HCE := Lib.hid (fun W (hf : Fr0 w W) (i : Nat) (hi : i < l.length) => show ∃ g off, Al = some ⟨g, off, none⟩ ∧ i < cl ∧ ∀ j u, (wayC l[i])[j]? = some u → W.cell? ⟨g, off + i * 5 + j, none⟩ = some u by
    obtain ⟨g, off, hA, hic, -, hcc⟩ := Rd.cellA (h.fr0 hf) hi
    refine ⟨g, off, hA, hic, fun j u hu => hcc j u ?_⟩
    have hj : j < 5 := by
      rcases Nat.lt_or_ge j 5 with hh | hh
      · exact hh
      · rw [List.getElem?_eq_none (by rw [wayC_len]; exact hh)] at hu; cases hu
    exact (flat_at wayC_len l i hi hj).trans hu)
  have HRD := Lib.hid (fun W (hf : Fr0 w W) (i : Nat) (hi : i < l.length) => show RdB W l[i].1 l[i].2.t from RdB.fr0 (hz _ (List.getElem_mem hi)) hf)
  have hck0 : ∃ c, c = (byts (code ++ mark)).toArray := ⟨_, rfl⟩
  obtain ⟨ck, hck⟩ := hck0
  rw [← hck] at FX BK HCK HN1 HN2 ⊢
  obtain ⟨key, hkey⟩ : ∃ k, k = code ++ mark := ⟨_, rfl⟩
  rw [← hkey] at HN1 HN2 I0 J0 W0 V0 HSG HHE HHO HNO
  have HNL := Lib.hid hnl
  rw [← hnl] at l63 ⊢
  obtain ⟨u0, hu0⟩ : ∃ s, s = newLk key false 0 1 := ⟨_, rfl⟩
  obtain ⟨d0, hd0⟩ : ∃ s, s = newLk key true 0 2 := ⟨_, rfl⟩
  have X0 := Lib.hid (show u0.next = 0 by rw [hu0]; rfl)
  have Y0 := Lib.hid (show d0.next = 0 by rw [hd0]; rfl)
  rw [← hu0] at HN1 I0 W0
  rw [← hd0] at HN2 J0 V0
  clear h1 hck hnl hc hm h hz HK hkey hu0 hd0
  go_enter Try.func7, Try.ntmps7
  go_upto_region 12 with (first
    | (have _q := F2; go_at_call 9; refine (HN2.out _).mono ?_; rintro e w3 ⟨pd, rfl, hL, hl, hf⟩; have F3 := Lib.hid (Fr0.trans F2.out hf); have U3 := Lib.hid ((U2.out).fr0 hf); have D3 := Lib.hid hL; have NE := Lib.hid (show pu ≠ pd from by have := (U2.out).lt; omega); have LD := Lib.hid (Nat.le_trans (F2.out).size hl); clear hf hL hl)
    | (have _q := F1; go_at_call 9; refine (HN1.out _).mono ?_; rintro e w2 ⟨pu, rfl, hL, hl, hf⟩; have F2 := Lib.hid (Fr0.trans F1.out hf); have K2 := Lib.hid ((K1.out).fr0 hf); have U2 := Lib.hid hL; have LU := Lib.hid (Nat.le_trans (F1.out).size hl); clear hf hL hl)
    | (go_at_call 8; refine (KN.out _).mono ?_; rintro e w1 ⟨rfl, hf⟩; have F1 := Lib.hid (Fr0.trans FX.out hf); have K1 := Lib.hid ((BK.out).fr0 hf); clear hf)
    | (have _q := K2; refine list_load_blk rfl 25 _ rfl w.heap.size rfl 25 ck K2.out _ Try.underlying25 rfl HCK.out ?_)
    | (refine list_load_blk rfl 25 _ rfl w.heap.size rfl 25 ck K1.out _ Try.underlying25 rfl HCK.out ?_))
  go_loopw [9, 10, 11] (fun v9 v10 v11 wr => ∃ (i m : Nat) (su sd : Lk) (L : List LateD) (A9 A10 : Option Addr) (c9 c10 : Nat), i ≤ nl ∧ m ≤ i ∧ v11 = .int .i64 (i : Int) ∧ v9 = .slice A9 m c9 ∧ v10 = .slice A10 m c10 ∧ LkV wr pu su ∧ LkV wr pd sd ∧ LkI key false i su ∧ LkI key true i sd ∧ newsOk su sd.next ∧ newsOk sd su.next ∧ LateV code mark w.heap.size wr (.slice A9 m c9) (.slice A10 m c10) m L ∧ Fr0 w wr) (fun _ _ v11 _ => nl - (intOf v11).toNat)
  case atStart => exact ⟨0, 0, u0, d0, [], none, none, 0, 0, by omega, by omega, rfl, rfl, rfl, U3.out, D3.out, I0.out, J0.out, by rw [Y0.out]; exact W0.out, by rw [X0.out]; exact V0.out, ⟨rfl, World.ownsRow_nil _ _ _ _, World.ownsRow_nil _ _ _ _, fun z hz => by cases hz⟩, F3.out⟩
  case round =>
    obtain ⟨i, m, su, sd, L, A9, A10, c9, c10, hi, hmi, rfl, rfl, rfl, hU, hD, hIU, hID, hNU, hND, hLV, hF⟩ := hrel
    clear U3 D3 F1 F2 F3 K1 K2 U2 I0 J0 W0 V0 X0 Y0
    by_cases hlt : i < nl
    · as_aux_lemma =>
      have F := Lib.hid hF
      have LV := Lib.hid hLV
      have tl : decide ((i : Int) < (nl : Int)) = true := decide_eq_true (by omega)
      have tl' : decide (i < nl) = true := decide_eq_true hlt
      have qi : IntKind.i64.wrap ((i : Int) + 1) = (i : Int) + 1 := IntWalk.i64_in _ (by have := H40.out; omega)
      have hil : i < l.length := by rw [← HNL.out]; exact hlt
      obtain ⟨g, off, hA, hic, cx⟩ := HCE.out wr F.out i hil
      have hr := HRD.out wr F.out i hil
      obtain ⟨⟨tv, up, t, go, takes, wh⟩, hli⟩ : ∃ z, z = l[i] := ⟨_, rfl⟩
      rw [← hli] at cx hr
      simp only [] at hr
      obtain ⟨At, ct, rfl, -, -, -⟩ := hr.form
      obtain ⟨nt, hnt⟩ : ∃ n, n = t.length := ⟨_, rfl⟩
      have hi0 : (0 : Int) ≤ (i : Int) := by omega
      have hi1 : (i : Int) < (nl : Int) := by omega
      subst hA
      have e0 : wr.cell? ⟨g, off + i * 5, none⟩ = some (.bool up) := cx 0 (.bool up) rfl
      have e1 := cx 1 (.slice At t.length ct) rfl
      have e2 := cx 2 (.int .i64 go) rfl
      have e3 := cx 3 (.int .i64 takes) rfl
      have e4 := cx 4 (.int .i64 wh) rfl
      rw [← hnt] at e1
      have HRI := Lib.hid (fun (W : World) (hf : Fr0 w W) => show RdB W (.slice At nt ct) t by have hh := HRD.out W hf i hil; rw [← hli] at hh; rw [hnt]; exact hh)
      have HNT := Lib.hid hnt
      have HI := Lib.hid hi
      have HMI := Lib.hid hmi
      have HLT := Lib.hid hlt
      have B := Lib.hid (Blk.new wr #[.bool up, .slice At nt ct, .int .i64 go, .int .i64 takes, .int .i64 wh] 73)
      have FB := Lib.hid (hF.alloc (.cells #[.bool up, .slice At nt ct, .int .i64 go, .int .i64 takes, .int .i64 wh] 73))
      have b0 := (B.out).cell 0 rfl
      have b1 := (B.out).cell 1 rfl
      have b2 := (B.out).cell 2 rfl
      have b3 := (B.out).cell 3 rfl
      have b4 := (B.out).cell 4 rfl
      by_cases hbad : 1196 < nt ∨ go < 0 ∨ 1073741824 < go ∨ takes < 0 ∨ 100000 < takes ∨ wh < 0 ∨ 65535 < wh
      · have qb : decide ((1196 : Int) < (nt : Int)) = true ∨ decide ((1196 : Int) < (nt : Int)) = false ∧ (decide (go < 0) = true ∨ decide (go < 0) = false ∧ (decide ((1073741824 : Int) < go) = true ∨ decide ((1073741824 : Int) < go) = false ∧ (decide (takes < 0) = true ∨ decide (takes < 0) = false ∧ (decide ((100000 : Int) < takes) = true ∨ decide ((100000 : Int) < takes) = false ∧ (decide (wh < 0) = true ∨ decide (wh < 0) = false ∧ decide ((65535 : Int) < wh) = true))))) := by
          simp only [decide_eq_true_eq, decide_eq_false_iff_not]
          omega
        clear hbad hlt hil hli hnt hi hmi cx hr hU hD hIU hID hNU hND hLV hF
        rcases qb with qb | ⟨qb, qb | ⟨qb, qb | ⟨qb, qb | ⟨qb, qb | ⟨qb, qb | ⟨qb, qb⟩⟩⟩⟩⟩⟩
        all_goals (
          go_wp2_with fail
          go_ret
          exact ⟨rfl, FB.out⟩)
      have r0 : decide ((1196 : Int) < (nt : Int)) = false := decide_eq_false (by omega)
      have r1 : decide (go < 0) = false := decide_eq_false (by omega)
      have r2 : decide ((1073741824 : Int) < go) = false := decide_eq_false (by omega)
      have r3 : decide (takes < 0) = false := decide_eq_false (by omega)
      have r4 : decide ((100000 : Int) < takes) = false := decide_eq_false (by omega)
      have r5 : decide (wh < 0) = false := decide_eq_false (by omega)
      have r6 : decide ((65535 : Int) < wh) = false := decide_eq_false (by omega)
      have hgo : 0 ≤ go ∧ go ≤ 1073741824 := by omega
      have htk : 0 ≤ takes ∧ takes ≤ 100000 := by omega
      have hwh : 0 ≤ wh ∧ wh ≤ 65535 := by omega
      have hl96 : t.length ≤ 1196 := by omega
      have HGO := Lib.hid hgo
      have HL96 := Lib.hid hl96
      have HOK := Lib.hid (show hearOk (go + takes) wh from ⟨by omega, by omega⟩)
      have qg : IntKind.i64.wrap (go + takes) = go + takes := IntWalk.i64_in _ (by omega)
      obtain ⟨pf, pt, sf, st, hsel⟩ : ∃ pf pt sf st, (up = true ∧ pf = pu ∧ pt = pd ∧ sf = su ∧ st = sd) ∨ (up = false ∧ pf = pd ∧ pt = pu ∧ sf = sd ∧ st = su) := by
        cases up
        · exact ⟨pd, pu, sd, su, .inr ⟨rfl, rfl, rfl, rfl, rfl⟩⟩
        · exact ⟨pu, pd, su, sd, .inl ⟨rfl, rfl, rfl, rfl, rfl⟩⟩
      have hSF : LkV wr pf sf := by rcases hsel with ⟨-, rfl, -, rfl, -⟩ | ⟨-, rfl, -, rfl, -⟩ <;> assumption
      have hST : LkV wr pt st := by rcases hsel with ⟨-, -, rfl, -, rfl⟩ | ⟨-, -, rfl, -, rfl⟩ <;> assumption
      have hIF : LkI key (!up) i sf := by rcases hsel with ⟨rfl, -, -, rfl, -⟩ | ⟨rfl, -, -, rfl, -⟩ <;> assumption
      have hIT : LkI key up i st := by rcases hsel with ⟨rfl, -, -, -, rfl⟩ | ⟨rfl, -, -, -, rfl⟩ <;> assumption
      have hNT : newsOk st sf.next := by rcases hsel with ⟨-, -, -, rfl, rfl⟩ | ⟨-, -, -, rfl, rfl⟩ <;> assumption
      have hNF : newsOk sf st.next := by rcases hsel with ⟨-, -, -, rfl, rfl⟩ | ⟨-, -, -, rfl, rfl⟩ <;> assumption
      have hne : pf ≠ pt := by rcases hsel with ⟨-, rfl, rfl, -, -⟩ | ⟨-, rfl, rfl, -, -⟩; exact NE.out; exact fun e => NE.out e.symm
      have LF := Lib.hid (show w.heap.size ≤ pf by rcases hsel with ⟨-, rfl, -, -, -⟩ | ⟨-, rfl, -, -, -⟩; exact LU.out; exact LD.out)
      have LT := Lib.hid (show w.heap.size ≤ pt by rcases hsel with ⟨-, -, rfl, -, -⟩ | ⟨-, -, rfl, -, -⟩; exact LD.out; exact LU.out)
      have i50 : ∀ {k : List UInt8} {d : Bool} {s : Lk}, LkI k d i s → LkI k d 50 s := fun h => ⟨h.made, h.key, h.down, by have := h.next; have := H40.out; omega, h.stamp, h.eat, h.may⟩
      have HIF := Lib.hid hIF
      have HIT := Lib.hid hIT
      have HIF5 := Lib.hid (i50 hIF)
      have HIT5 := Lib.hid (i50 hIT)
      have HNT2 := Lib.hid hNT
      have HNF := Lib.hid hNF
      have HNE := Lib.hid hne
      have SF := Lib.hid (hSF.fr0 ((Fr0.refl wr).alloc (.cells #[.bool up, .slice At nt ct, .int .i64 go, .int .i64 takes, .int .i64 wh] 73)))
      have ST := Lib.hid (hST.fr0 ((Fr0.refl wr).alloc (.cells #[.bool up, .slice At nt ct, .int .i64 go, .int .i64 takes, .int .i64 wh] 73)))
      have LB := Lib.hid (hLV.fr0 ((Fr0.refl wr).alloc (.cells #[.bool up, .slice At nt ct, .int .i64 go, .int .i64 takes, .int .i64 wh] 73)))
      have HSEL := Lib.hid hsel
      obtain ⟨N, hN⟩ : ∃ n, n = sf.next := ⟨_, rfl⟩
      have HN := Lib.hid hN
      have hN50 : N ≤ 50 := by have := hIF.next; have := H40.out; omega
      have HN50 := Lib.hid hN50
      have qn : IntKind.u64.wrap ((N : Int) + 1) = (N : Int) + 1 := by rw [IntKind.wrap_u64]; omega
      have hmade := hIF.made
      have HMF := Lib.hid hmade
      clear hbad hlt hil hli hnt hi hmi cx hr hU hD hIU hID hNU hND hLV hF hgo htk hwh hl96 hSF hST hIF hIT hNT hNF hne i50 hN hN50 hmade
      go_upto_if 109 with (fail)
      go_cut [13, 14] (fun s13 s14 wx => s13 = .pointer (some ⟨pf, 0, none⟩) ∧ s14 = .pointer (some ⟨pt, 0, none⟩) ∧ wx = wr.alloc (.cells #[.bool up, .slice At nt ct, .int .i64 go, .int .i64 takes, .int .i64 wh] 73))
      case first =>
        rcases HSEL.out with ⟨hup, e1, e2, -, -⟩ | ⟨hup, e1, e2, -, -⟩
        · subst hup
          clear HSEL
          go_wp2_with fail
          go_meet
          exact ⟨by rw [e1], by rw [e2], rfl⟩
        · subst hup
          clear HSEL
          go_wp2_with fail
          go_meet
          exact ⟨by rw [e1], by rw [e2], rfl⟩
      case rest =>
        obtain ⟨rfl, rfl, rfl⟩ := hcut
        obtain ⟨wb, hwb⟩ : ∃ x, x = wr.alloc (.cells #[.bool up, .slice At nt ct, .int .i64 go, .int .i64 takes, .int .i64 wh] 73) := ⟨_, rfl⟩
        rw [← hwb] at B FB b0 b1 b2 b3 b4 SF ST LB ⊢
        obtain ⟨gx, hgx⟩ : ∃ x, x = wr.heap.size := ⟨_, rfl⟩
        rw [← hgx] at B b0 b1 b2 b3 b4 ⊢
        clear hwb hgx e0 e1 e2 e3 e4 F LV r0 r1 r2 r3 r4 r5 r6 HCE HRD
        obtain ⟨x, hx⟩ : ∃ x, x = (go % 65535).toNat := ⟨_, rfl⟩
        obtain ⟨y, hy⟩ : ∃ y, y = (echoV sf go).toNat := ⟨_, rfl⟩
        have HX := Lib.hid (show x < 65535 by have := HGO.out; omega)
        have HY := Lib.hid (show y < 65536 by have := echoV_range sf go; omega)
        obtain ⟨mp, hmp⟩ : ∃ m, m = nt + 28 := ⟨_, rfl⟩
        have HMP := Lib.hid (show mp = t.length + 28 by rw [hmp, HNT.out])
        have HS1 := Lib.hid (fun W v (h : LkV W pf sf) (ht : RdB W v t) => HSG.out W pf sf (!up) v go t h HIF5.out HGO.out ht HL96.out)
        rw [← HMP.out, ← HN.out, ← hx, ← hy] at HS1
        have HNX1 := Lib.hid (fun W (h : LkV W pf sf) => HNX.out W pf sf h HMF.out)
        rw [← HN.out] at HNX1
        have HNX2 := Lib.hid (fun W (h : LkV W pf (sentLk sf)) => show Calls Try.prog 12 #[.pointer (some ⟨pf, 0, none⟩)] W (fun e w' => e = .returned (.int .u64 ((N : Int) + 1)) ∧ Fr0 W w') by
          have h2 := HNX.out W pf (sentLk sf) h HMF.out
          rw [show ((sentLk sf).next : Int) = (N : Int) + 1 from by rw [HN.out]; show ((sf.next + 1 : Nat) : Int) = _; omega] at h2
          exact h2)
        obtain ⟨pk, hpk⟩ : ∃ p, p = pkL code mark (!up) N x y t := ⟨_, rfl⟩
        rw [← hpk] at HS1
        have HPK := Lib.hid hpk
        clear hpk hmp hx hy
        go_upto_region 24 with (first
          | (have _q := F5; go_at_call 12; refine (HNX2.out _ S5.out).mono ?_; rintro e w6 ⟨rfl, hf⟩; have F6 := Lib.hid (Fr0.trans F5.out hf); have S6 := Lib.hid ((S5.out).fr0 hf); have T6 := Lib.hid ((T5.out).fr0 hf); have L6 := Lib.hid ((L5.out).fr0 hf); have B6 := Lib.hid ((B5.out).fr0 hf); have P6 := Lib.hid ((P5.out).fr0 hf); clear hf)
          | (have _q := F4; go_at_call 10; refine (HS1.out _ _ S4.out (HRI.out _ F4.out)).mono ?_; rintro e w5 ⟨A5, c5, rfl, ho, hL, hf⟩; have F5 := Lib.hid (Fr0.new F4.out hf LF.out); have T5 := Lib.hid ((T4.out).fr1 hf (fun e => HNE.out e.symm)); have L5 := Lib.hid ((L4.out).link S4.out hf); have B5 := Lib.hid ((B4.out).fr1 hf (fun e => absurd (Blk.two_ty (by have h := B4.out; rw [e] at h; exact h) (S4.out).blk) (by decide))); have S5 := Lib.hid hL; have P5 := Lib.hid ho; clear hf hL ho)
          | (go_at_call 12; refine (HNX1.out _ SF.out).mono ?_; rintro e w4 ⟨rfl, hf⟩; have F4 := Lib.hid (Fr0.trans FB.out hf); have S4 := Lib.hid ((SF.out).fr0 hf); have T4 := Lib.hid ((ST.out).fr0 hf); have L4 := Lib.hid ((LB.out).fr0 hf); have B4 := Lib.hid ((B.out).fr0 hf); have b1 := (B4.out).cell 1 rfl; have b2 := (B4.out).cell 2 rfl; clear hf))
        have HZ := Lib.hid (show LateOk code mark w6 ⟨.slice A5 mp c5, up, N, x, y, t⟩ from ⟨by rw [← HPK.out]; exact (P6.out).rd, by obtain ⟨b, hb⟩ := P6.out; exact TyB.of_own hb, by have := HN50.out; show N < _; omega, HX.out, HY.out, HL96.out⟩)
        clear F4 S4 T4 L4 B4 F5 S5 T5 L5 B5 P5 SF ST LB FB B b0 b1 b2 b3 b4
        by_cases hpar : i % 2 = 1
        · as_aux_lemma =>
          have tm1 : (i : Int).tmod 2 = 1 := by rw [Int.tmod_eq_emod_of_nonneg (by omega)]; omega
          have tm2 : (i : Int) % 2 = 1 := by omega
          obtain ⟨ib, hib, hz1, hz2, hz3⟩ := info_parts infoBs
          obtain ⟨il, hil2, hy1, hy2, hy3⟩ := info_parts infoBl
          have LA := Lib.hid ((L6.out).fr0 ((Fr0.refl w6).alloc (.cells #[.slice A5 mp c5] 32)))
          have HZA := Lib.hid ((HZ.out).fr0 ((Fr0.refl w6).alloc (.cells #[.slice A5 mp c5] 32)))
          have SA := Lib.hid ((S6.out).fr0 ((Fr0.refl w6).alloc (.cells #[.slice A5 mp c5] 32)))
          have TA := Lib.hid ((T6.out).fr0 ((Fr0.refl w6).alloc (.cells #[.slice A5 mp c5] 32)))
          have BA := Lib.hid ((B6.out).alloc (.cells #[.slice A5 mp c5] 32))
          have FA := Lib.hid ((F6.out).alloc (.cells #[.slice A5 mp c5] 32))
          clear hpar
          go_wp2_with (first
            | (have _q := O7; at_builtin; refine list_append_ownR rfl _ _ 71 rfl (base := w.heap.size) (Nat.le_trans (F7.out).size (by rw [World.size_alloc]; exact Nat.le_succ _)) 4 il (.bool false) 1 1 Try.underlying71 hil2 hy1 hy2 hy3 rfl (by decide) (own_fr R7.out ((Fr0.refl w7).alloc (.cells #[.bool up] 4)) (fun _ _ h => h)) rfl (rd_one1 (Blk.new w7 #[.bool up] 4)) rfl (by intro u hu; rw [List.mem_singleton.1 hu]; rfl) (by have := HMI.out; have := HI.out; have := H40.out; unfold maxLen; omega) (by have := HMI.out; have := HI.out; have := H40.out; omega) ?_; intro A8 c8 w8 hO hF; have fa := (Fr0.refl w7).alloc (.cells #[.bool up] 4); have ra := own_fr R7.out fa (fun _ _ h => h); have L8 := Lib.hid (LateV.push LA.out HZA.out (own_fr O7.out fa (fun _ _ h => h)) (Fr.then0 FF7.out fa) hO hF); have S8 := Lib.hid (((S7.out).fr0 fa).fr hF (ownB_link ra ((S7.out).fr0 fa) (by decide))); have T8 := Lib.hid (((T7.out).fr0 fa).fr hF (ownB_link ra ((T7.out).fr0 fa) (by decide))); have F8 := Lib.hid (show Fr0 w w8 from Fr.then (Fr0.trans F7.out fa) hF (fun k hk hl => by have := (own_lt' ra k hk).1; omega)); clear hO hF fa ra)
            | (at_builtin; refine list_append_ownR rfl _ _ 39 rfl (base := w.heap.size) (FA.out).size 32 ib (.slice none 0 0) 1 24 Try.underlying39 hib hz1 hz2 hz3 rfl (by decide) (LA.out).r9 rfl (rd_one1 (Blk.new w6 #[.slice A5 mp c5] 32)) rfl (by intro u hu; rw [List.mem_singleton.1 hu]; rfl) (by have := HMI.out; have := HI.out; have := H40.out; unfold maxLen; omega) (by have := HMI.out; have := HI.out; have := H40.out; omega) ?_; intro A7 c7 w7 hO hF; have O7 := Lib.hid hO; have FF7 := Lib.hid hF; have R7 := Lib.hid (own_apart2 (LA.out).r9 (LA.out).r10 hF (by decide)); have S7 := Lib.hid ((SA.out).fr hF (ownB_link (LA.out).r9 SA.out (by decide))); have T7 := Lib.hid ((TA.out).fr hF (ownB_link (LA.out).r9 TA.out (by decide))); have b0 := ((BA.out).fr hF (ownB_blk (LA.out).r9 BA.out (by decide))).cell 0 rfl; have F7 := Lib.hid (show Fr0 w w7 from Fr.then FA.out hF (fun k hk hl => by have := (own_lt' (LA.out).r9 k hk).1; omega)); clear hO hF))
          rcases HSEL.out with ⟨hup, e1, e2, e3, e4⟩ | ⟨hup, e1, e2, e3, e4⟩
          · exact ⟨⟨i + 1, m + 1, sentLk sf, st, _, A7, A8, c7, c8, by have := HLT.out; omega, by have := HMI.out; omega, by simp, rfl, rfl, by rw [← e1]; exact S8.out, by rw [← e2]; exact T8.out, by have h := (HIF.out).sent; rw [hup] at h; exact h, by have h := (HIT.out).more; rw [hup] at h; exact h, HNF.out, fun hh => Nat.lt_succ_of_lt (HNT2.out hh), L8.out, F8.out⟩, by have := HLT.out; simp [intOf]; omega⟩
          · exact ⟨⟨i + 1, m + 1, st, sentLk sf, _, A7, A8, c7, c8, by have := HLT.out; omega, by have := HMI.out; omega, by simp, rfl, rfl, by rw [← e2]; exact T8.out, by rw [← e1]; exact S8.out, by have h := (HIT.out).more; rw [hup] at h; exact h, by have h := (HIF.out).sent; rw [hup] at h; exact h, fun hh => Nat.lt_succ_of_lt (HNT2.out hh), HNF.out, L8.out, F8.out⟩, by have := HLT.out; simp [intOf]; omega⟩
        · as_aux_lemma =>
          have tm1 : (i : Int).tmod 2 = 0 := by rw [Int.tmod_eq_emod_of_nonneg (by omega)]; omega
          have tm2 : (i : Int) % 2 = 0 := by omega
          have hnew : ¬ (st.heard = true ∧ N ≤ st.newest) := fun hh => by have := HNT2.out hh.1; have := HN.out; have := hh.2; omega
          have HH1 := Lib.hid (fun W v (h : LkV W pt st) (hb : RdB W v pk) => HHE.out W pt st up v (go + takes) wh N x y t h HIT5.out HOK.out (by rw [← HPK.out]; exact hb) (by have := HN50.out; omega) HL96.out HX.out HY.out hnew)
          have HI2 := Lib.hid ((HIT.out).more.hear (now := go + takes) (frm := wh) (n := N) (x := x) (y := y) ⟨(HOK.out).1.1, (HOK.out).1.2⟩ HX.out)
          have G1 := Lib.hid (hearLk_heard st (go + takes) wh N x y)
          have G2 := Lib.hid (hearLk_newest st (go + takes) wh N x y)
          have G3 := Lib.hid (hearLk_addr st (go + takes) wh N x y)
          have G4 := Lib.hid (hearLk_nextT st (go + takes) wh N x y)
          obtain ⟨s2, hs2⟩ : ∃ s, s = hearLk st (go + takes) wh N x y := ⟨_, rfl⟩
          rw [← hs2] at HH1 HI2 G1 G2 G3 G4
          have HNW1 := Lib.hid (fun W (h : LkV W pt s2) => show Calls Try.prog 20 #[.pointer (some ⟨pt, 0, none⟩)] W (fun e w' => e = .returned (.tuple #[.int .u64 (N : Int), .bool true]) ∧ Fr0 W w') by
            have h2 := HNW.out W pt s2 h (HI2.out).made
            rw [G1.out, G2.out] at h2
            exact h2)
          have HAD1 := Lib.hid (fun W (h : LkV W pt s2) (hu : up = true) => show Calls Try.prog 21 #[.pointer (some ⟨pt, 0, none⟩)] W (fun e w' => e = .returned (.int .i64 wh) ∧ Fr0 W w') by
            have h2 := HAD.out W pt s2 h (HI2.out).made
            rw [G3.out, if_pos (by rw [(HIT.out).down]; exact hu)] at h2
            exact h2)
          have HIT9 := Lib.hid (show LkI key (!(!up)) 50 s2 from by rw [Bool.not_not]; exact ⟨(HI2.out).made, (HI2.out).key, (HI2.out).down, by have := (HI2.out).next; have := HLT.out; have := H40.out; omega, (HI2.out).stamp, (HI2.out).eat, (HI2.out).may⟩)
          have HIF9 := Lib.hid (show LkI key (!up) 50 (sentLk sf) from by have h := (HIF.out).sent; exact ⟨h.made, h.key, h.down, by have := h.next; have := HLT.out; have := H40.out; omega, h.stamp, h.eat, h.may⟩)
          have HNO1 := Lib.hid (fun W (hF : LkV W pf (sentLk sf)) (hT : LkV W pt s2) (hb : RdB W (.slice A5 mp c5) pk) (htv : RdB W (.slice At nt ct) t) => HNO.out W pf pt (sentLk sf) s2 (!up) A5 mp c5 N x y t up (.slice At nt ct) go takes wh hF hT HIF9.out HIT9.out (by rw [← HPK.out]; exact hb) HMP.out ⟨G1.out, Nat.le_of_eq G2.out.symm⟩ (by have := HN50.out; omega) HL96.out HX.out HY.out HGO.out htv)
          rw [← HNT.out] at HH1
          have b2 := (B6.out).cell 2 rfl
          have b3 := (B6.out).cell 3 rfl
          have b4 := (B6.out).cell 4 rfl
          clear hpar hnew hs2
          go_upto_region 29 with (first
            | (have _q := T7; go_at_call 20; refine (HNW1.out _ T7.out).mono ?_; rintro e w8 ⟨rfl, hf⟩; have F8 := Lib.hid (Fr0.trans F7.out hf); have S8 := Lib.hid ((S7.out).fr0 hf); have T8 := Lib.hid ((T7.out).fr0 hf); have P8 := Lib.hid ((P7.out).fr0 hf); have X8 := Lib.hid ((X7.out).fr0 hf); have L8 := Lib.hid ((L7.out).fr0 hf); have B8 := Lib.hid ((B7.out).fr0 hf); clear hf)
            | (go_at_call 11; refine (HH1.out _ _ T6.out (P6.out).rd).mono ?_; rintro e w7 ⟨A7, c7, rfl, ho, hL, hf⟩; have F7 := Lib.hid (Fr0.new F6.out hf LT.out); have S7 := Lib.hid ((S6.out).fr1 hf HNE.out); have T7 := Lib.hid hL; have P7 := Lib.hid ((P6.out).link T6.out hf); have X7 := Lib.hid ho; have L7 := Lib.hid ((L6.out).link T6.out hf); have B7 := Lib.hid ((B6.out).fr1 hf (fun e => absurd (Blk.two_ty (by have h := B6.out; rw [e] at h; exact h) (T6.out).blk) (by decide))); clear hf hL ho))
          clear F6 S6 T6 P6 L6 B6 F7 S7 T7 P7 X7 L7 B7 b2 b3 b4 HH1
          rcases HSEL.out with ⟨hup, e1, e2, e3, e4⟩ | ⟨hup, e1, e2, e3, e4⟩
          · as_aux_lemma =>
            have HAD2 := Lib.hid (fun W (h : LkV W pt s2) => show Calls Try.prog 21 #[.pointer (some ⟨pd, 0, none⟩)] W (fun e w' => e = .returned (.int .i64 wh) ∧ Fr0 W w') by rw [← e2]; exact HAD1.out W h hup)
            have E1 := Lib.hid e1
            have E2 := Lib.hid e2
            have HU := Lib.hid hup
            have B9 := B8.out
            rw [hup] at B9
            replace B8 := Lib.hid B9
            clear e1 e2 e3 e4 hup B9
            refine wp_region_class (fun W => Fr0 w8.drew W) (by kernel_rfl) (by kernel_rfl) (Fr0.refl _) ?_
            refine q_move rfl _ rfl ?_
            try simp only [Act.put, List.setIfInBounds_toArray, List.set_cons_zero, List.set_cons_succ]
            refine q_val rfl (fun W hW => by go_simp; try rfl) ?_
            try simp only [Act.put, List.setIfInBounds_toArray, List.set_cons_zero, List.set_cons_succ]
            refine q_move rfl _ rfl ?_
            try simp only [Act.put, List.setIfInBounds_toArray, List.set_cons_zero, List.set_cons_succ]
            refine q_move rfl _ rfl ?_
            try simp only [Act.put, List.setIfInBounds_toArray, List.set_cons_zero, List.set_cons_succ]
            refine q_val rfl (fun W hW => by go_simp; try rfl) ?_
            try simp only [Act.put, List.setIfInBounds_toArray, List.set_cons_zero, List.set_cons_succ]
            refine q_val rfl (fun W hW => by go_simp; try rfl) ?_
            try simp only [Act.put, List.setIfInBounds_toArray, List.set_cons_zero, List.set_cons_succ]
            refine q_move rfl _ rfl ?_
            try simp only [Act.put, List.setIfInBounds_toArray, List.set_cons_zero, List.set_cons_succ]
            refine q_move rfl _ rfl ?_
            try simp only [Act.put, List.setIfInBounds_toArray, List.set_cons_zero, List.set_cons_succ]
            refine q_val (v := .string (str t)) rfl (fun W hW => by have cs1 := conv_ownN HNT.out.symm (RdB.fr0 (RdB.fr0 (X8.out).rd ((Fr0.refl w8).drew)) hW); go_simp; try rfl) ?_
            try simp only [Act.put, List.setIfInBounds_toArray, List.set_cons_zero, List.set_cons_succ]
            refine q_val rfl (fun W hW => by go_simp; try rfl) ?_
            try simp only [Act.put, List.setIfInBounds_toArray, List.set_cons_zero, List.set_cons_succ]
            refine q_val (v := .slice At nt ct) rfl (fun W hW => by have BB := (Blk.drew B8.out).fr0 hW; have b1 := BB.cell 1 rfl; go_simp; try rfl) ?_
            try simp only [Act.put, List.setIfInBounds_toArray, List.set_cons_zero, List.set_cons_succ]
            refine q_val (v := .string (str t)) rfl (fun W hW => by have cs2 := conv_ownN HNT.out.symm (HRI.out W (Fr0.trans (Fr0.drew F8.out) hW)); go_simp; try rfl) ?_
            try simp only [Act.put, List.setIfInBounds_toArray, List.set_cons_zero, List.set_cons_succ]
            refine q_val (v := .bool false) rfl (fun W hW => by go_simp; try rfl) ?_
            try simp only [Act.put, List.setIfInBounds_toArray, List.set_cons_zero, List.set_cons_succ]
            refine q_val (v := .bool false) rfl (fun W hW => by go_simp; try rfl) ?_
            try simp only [Act.put, List.setIfInBounds_toArray, List.set_cons_zero, List.set_cons_succ]
            refine q_move rfl _ rfl ?_
            try simp only [Act.put, List.setIfInBounds_toArray, List.set_cons_zero, List.set_cons_succ]
            refine q_move rfl _ rfl ?_
            try simp only [Act.put, List.setIfInBounds_toArray, List.set_cons_zero, List.set_cons_succ]
            refine q_val rfl (fun W hW => by go_simp; try rfl) ?_
            try simp only [Act.put, List.setIfInBounds_toArray, List.set_cons_zero, List.set_cons_succ]
            refine q_val (v := .bool false) rfl (fun W hW => by go_simp; try rfl) ?_
            try simp only [Act.put, List.setIfInBounds_toArray, List.set_cons_zero, List.set_cons_succ]
            refine q_move rfl _ rfl ?_
            try simp only [Act.put, List.setIfInBounds_toArray, List.set_cons_zero, List.set_cons_succ]
            refine q_move rfl _ rfl ?_
            try simp only [Act.put, List.setIfInBounds_toArray, List.set_cons_zero, List.set_cons_succ]
            refine q_move rfl _ rfl ?_
            try simp only [Act.put, List.setIfInBounds_toArray, List.set_cons_zero, List.set_cons_succ]
            refine q_val rfl (fun W hW => by go_simp; try rfl) ?_
            try simp only [Act.put, List.setIfInBounds_toArray, List.set_cons_zero, List.set_cons_succ]
            refine q_val (v := .bool false) rfl (fun W hW => by go_simp; try rfl) ?_
            try simp only [Act.put, List.setIfInBounds_toArray, List.set_cons_zero, List.set_cons_succ]
            refine q_move rfl _ rfl ?_
            try simp only [Act.put, List.setIfInBounds_toArray, List.set_cons_zero, List.set_cons_succ]
            refine q_val rfl (fun W hW => by go_simp; try rfl) ?_
            try simp only [Act.put, List.setIfInBounds_toArray, List.set_cons_zero, List.set_cons_succ]
            refine q_val (v := .bool true) rfl (fun W hW => by have BB := (Blk.drew B8.out).fr0 hW; have b0 := BB.cell 0 rfl; go_simp; try rfl) ?_
            try simp only [Act.put, List.setIfInBounds_toArray, List.set_cons_zero, List.set_cons_succ]
            refine q_move rfl _ rfl ?_
            try simp only [Act.put, List.setIfInBounds_toArray, List.set_cons_zero, List.set_cons_succ]
            refine q_move rfl _ rfl ?_
            try simp only [Act.put, List.setIfInBounds_toArray, List.set_cons_zero, List.set_cons_succ]
            refine q_call rfl 21 #[.pointer (some ⟨pd, 0, none⟩)] (fun _ => by go_simp; try rfl) (fun W hW => (HAD2.out W (((T8.out).drew).fr0 hW)).mono (by rintro e W' ⟨rfl, hf⟩; exact ⟨rfl, Fr0.trans hW hf⟩)) ?_
            try simp only [Act.put, List.setIfInBounds_toArray, List.set_cons_zero, List.set_cons_succ]
            refine q_val rfl (fun W hW => by go_simp; try rfl) ?_
            try simp only [Act.put, List.setIfInBounds_toArray, List.set_cons_zero, List.set_cons_succ]
            refine q_val (v := .int .i64 wh) rfl (fun W hW => by have BB := (Blk.drew B8.out).fr0 hW; have b4 := BB.cell 4 rfl; go_simp; try rfl) ?_
            try simp only [Act.put, List.setIfInBounds_toArray, List.set_cons_zero, List.set_cons_succ]
            refine q_val (v := .bool false) rfl (fun W hW => by go_simp; try rfl) ?_
            try simp only [Act.put, List.setIfInBounds_toArray, List.set_cons_zero, List.set_cons_succ]
            refine q_val (v := .bool false) rfl (fun W hW => by go_simp; try rfl) ?_
            try simp only [Act.put, List.setIfInBounds_toArray, List.set_cons_zero, List.set_cons_succ]
            refine q_val (v := .bool false) rfl (fun W hW => by go_simp; try rfl) ?_
            try simp only [Act.put, List.setIfInBounds_toArray, List.set_cons_zero, List.set_cons_succ]
            refine q_nil ?_
            intro w' hC
            have FD := Lib.hid (Fr0.trans (Fr0.drew F8.out) hC)
            have SD := Lib.hid (((S8.out).drew).fr0 hC)
            have TD := Lib.hid (((T8.out).drew).fr0 hC)
            have PD := Lib.hid (((P8.out).fr0 ((Fr0.refl w8).drew)).fr0 hC)
            have LD2 := Lib.hid (((L8.out).fr0 ((Fr0.refl w8).drew)).fr0 hC)
            have BD := (Blk.drew B8.out).fr0 hC
            have b0 := BD.cell 0 rfl
            have b1 := BD.cell 1 rfl
            have b2 := BD.cell 2 rfl
            have b3 := BD.cell 3 rfl
            have b4 := BD.cell 4 rfl
            have HNO2 := Lib.hid (fun W hF hT hb htv => HNO1.out W hF hT hb htv)
            rw [HU.out] at HNO2
            clear BD hC F8 S8 T8 P8 X8 L8 B8
            go_wp2_with (go_at_call 23; refine (HNO2.out _ SD.out TD.out (PD.out).rd (HRI.out _ FD.out)).mono ?_; rintro e wz ⟨rfl, hf⟩; have FZ := Lib.hid (Fr0.trans FD.out hf); have SZ := Lib.hid ((SD.out).fr0 hf); have TZ := Lib.hid ((TD.out).fr0 hf); have LZ := Lib.hid ((LD2.out).fr0 hf); clear hf)
            rw [HU.out] at HI2 HIF
            exact ⟨⟨i + 1, m, sentLk sf, s2, L, A9, A10, c9, c10, by have := HLT.out; omega, by have := HMI.out; omega, by simp, rfl, rfl, by rw [← E1.out]; exact SZ.out, by rw [← E2.out]; exact TZ.out, (HIF.out).sent, HI2.out, by show newsOk sf s2.next; rw [G4.out]; exact HNF.out, fun _ => by rw [G2.out, HN.out]; exact Nat.lt_succ_self _, LZ.out, FZ.out⟩, by have := HLT.out; simp [intOf]; omega⟩
          · as_aux_lemma =>
            have E1 := Lib.hid e1
            have E2 := Lib.hid e2
            have HU := Lib.hid hup
            have B9 := B8.out
            rw [hup] at B9
            replace B8 := Lib.hid B9
            clear e1 e2 e3 e4 hup B9
            refine wp_region_class (fun W => Fr0 w8.drew W) (by kernel_rfl) (by kernel_rfl) (Fr0.refl _) ?_
            refine q_move rfl _ rfl ?_
            try simp only [Act.put, List.setIfInBounds_toArray, List.set_cons_zero, List.set_cons_succ]
            refine q_val rfl (fun W hW => by go_simp; try rfl) ?_
            try simp only [Act.put, List.setIfInBounds_toArray, List.set_cons_zero, List.set_cons_succ]
            refine q_move rfl _ rfl ?_
            try simp only [Act.put, List.setIfInBounds_toArray, List.set_cons_zero, List.set_cons_succ]
            refine q_move rfl _ rfl ?_
            try simp only [Act.put, List.setIfInBounds_toArray, List.set_cons_zero, List.set_cons_succ]
            refine q_val rfl (fun W hW => by go_simp; try rfl) ?_
            try simp only [Act.put, List.setIfInBounds_toArray, List.set_cons_zero, List.set_cons_succ]
            refine q_val rfl (fun W hW => by go_simp; try rfl) ?_
            try simp only [Act.put, List.setIfInBounds_toArray, List.set_cons_zero, List.set_cons_succ]
            refine q_move rfl _ rfl ?_
            try simp only [Act.put, List.setIfInBounds_toArray, List.set_cons_zero, List.set_cons_succ]
            refine q_move rfl _ rfl ?_
            try simp only [Act.put, List.setIfInBounds_toArray, List.set_cons_zero, List.set_cons_succ]
            refine q_val (v := .string (str t)) rfl (fun W hW => by have cs1 := conv_ownN HNT.out.symm (RdB.fr0 (RdB.fr0 (X8.out).rd ((Fr0.refl w8).drew)) hW); go_simp; try rfl) ?_
            try simp only [Act.put, List.setIfInBounds_toArray, List.set_cons_zero, List.set_cons_succ]
            refine q_val rfl (fun W hW => by go_simp; try rfl) ?_
            try simp only [Act.put, List.setIfInBounds_toArray, List.set_cons_zero, List.set_cons_succ]
            refine q_val (v := .slice At nt ct) rfl (fun W hW => by have BB := (Blk.drew B8.out).fr0 hW; have b1 := BB.cell 1 rfl; go_simp; try rfl) ?_
            try simp only [Act.put, List.setIfInBounds_toArray, List.set_cons_zero, List.set_cons_succ]
            refine q_val (v := .string (str t)) rfl (fun W hW => by have cs2 := conv_ownN HNT.out.symm (HRI.out W (Fr0.trans (Fr0.drew F8.out) hW)); go_simp; try rfl) ?_
            try simp only [Act.put, List.setIfInBounds_toArray, List.set_cons_zero, List.set_cons_succ]
            refine q_val (v := .bool false) rfl (fun W hW => by go_simp; try rfl) ?_
            try simp only [Act.put, List.setIfInBounds_toArray, List.set_cons_zero, List.set_cons_succ]
            refine q_val (v := .bool false) rfl (fun W hW => by go_simp; try rfl) ?_
            try simp only [Act.put, List.setIfInBounds_toArray, List.set_cons_zero, List.set_cons_succ]
            refine q_move rfl _ rfl ?_
            try simp only [Act.put, List.setIfInBounds_toArray, List.set_cons_zero, List.set_cons_succ]
            refine q_move rfl _ rfl ?_
            try simp only [Act.put, List.setIfInBounds_toArray, List.set_cons_zero, List.set_cons_succ]
            refine q_val rfl (fun W hW => by go_simp; try rfl) ?_
            try simp only [Act.put, List.setIfInBounds_toArray, List.set_cons_zero, List.set_cons_succ]
            refine q_val (v := .bool false) rfl (fun W hW => by go_simp; try rfl) ?_
            try simp only [Act.put, List.setIfInBounds_toArray, List.set_cons_zero, List.set_cons_succ]
            refine q_move rfl _ rfl ?_
            try simp only [Act.put, List.setIfInBounds_toArray, List.set_cons_zero, List.set_cons_succ]
            refine q_move rfl _ rfl ?_
            try simp only [Act.put, List.setIfInBounds_toArray, List.set_cons_zero, List.set_cons_succ]
            refine q_move rfl _ rfl ?_
            try simp only [Act.put, List.setIfInBounds_toArray, List.set_cons_zero, List.set_cons_succ]
            refine q_val rfl (fun W hW => by go_simp; try rfl) ?_
            try simp only [Act.put, List.setIfInBounds_toArray, List.set_cons_zero, List.set_cons_succ]
            refine q_val (v := .bool false) rfl (fun W hW => by go_simp; try rfl) ?_
            try simp only [Act.put, List.setIfInBounds_toArray, List.set_cons_zero, List.set_cons_succ]
            refine q_move rfl _ rfl ?_
            try simp only [Act.put, List.setIfInBounds_toArray, List.set_cons_zero, List.set_cons_succ]
            refine q_val rfl (fun W hW => by go_simp; try rfl) ?_
            try simp only [Act.put, List.setIfInBounds_toArray, List.set_cons_zero, List.set_cons_succ]
            refine q_val (v := .bool false) rfl (fun W hW => by have BB := (Blk.drew B8.out).fr0 hW; have b0 := BB.cell 0 rfl; go_simp; try rfl) ?_
            try simp only [Act.put, List.setIfInBounds_toArray, List.set_cons_zero, List.set_cons_succ]
            refine q_move rfl _ rfl ?_
            try simp only [Act.put, List.setIfInBounds_toArray, List.set_cons_zero, List.set_cons_succ]
            refine q_skip rfl ?_
            try simp only [Act.put, List.setIfInBounds_toArray, List.set_cons_zero, List.set_cons_succ]
            refine q_skip rfl ?_
            try simp only [Act.put, List.setIfInBounds_toArray, List.set_cons_zero, List.set_cons_succ]
            refine q_skip rfl ?_
            try simp only [Act.put, List.setIfInBounds_toArray, List.set_cons_zero, List.set_cons_succ]
            refine q_skip rfl ?_
            try simp only [Act.put, List.setIfInBounds_toArray, List.set_cons_zero, List.set_cons_succ]
            refine q_skip rfl ?_
            try simp only [Act.put, List.setIfInBounds_toArray, List.set_cons_zero, List.set_cons_succ]
            refine q_val (v := .bool false) rfl (fun W hW => by go_simp; try rfl) ?_
            try simp only [Act.put, List.setIfInBounds_toArray, List.set_cons_zero, List.set_cons_succ]
            refine q_val (v := .bool false) rfl (fun W hW => by go_simp; try rfl) ?_
            try simp only [Act.put, List.setIfInBounds_toArray, List.set_cons_zero, List.set_cons_succ]
            refine q_nil ?_
            intro w' hC
            have FD := Lib.hid (Fr0.trans (Fr0.drew F8.out) hC)
            have SD := Lib.hid (((S8.out).drew).fr0 hC)
            have TD := Lib.hid (((T8.out).drew).fr0 hC)
            have PD := Lib.hid (((P8.out).fr0 ((Fr0.refl w8).drew)).fr0 hC)
            have LD2 := Lib.hid (((L8.out).fr0 ((Fr0.refl w8).drew)).fr0 hC)
            have BD := (Blk.drew B8.out).fr0 hC
            have b0 := BD.cell 0 rfl
            have b1 := BD.cell 1 rfl
            have b2 := BD.cell 2 rfl
            have b3 := BD.cell 3 rfl
            have b4 := BD.cell 4 rfl
            have HNO2 := Lib.hid (fun W hF hT hb htv => HNO1.out W hF hT hb htv)
            rw [HU.out] at HNO2
            clear BD hC F8 S8 T8 P8 X8 L8 B8
            go_wp2_with (go_at_call 23; refine (HNO2.out _ SD.out TD.out (PD.out).rd (HRI.out _ FD.out)).mono ?_; rintro e wz ⟨rfl, hf⟩; have FZ := Lib.hid (Fr0.trans FD.out hf); have SZ := Lib.hid ((SD.out).fr0 hf); have TZ := Lib.hid ((TD.out).fr0 hf); have LZ := Lib.hid ((LD2.out).fr0 hf); clear hf)
            rw [HU.out] at HI2 HIF
            exact ⟨⟨i + 1, m, s2, sentLk sf, L, A9, A10, c9, c10, by have := HLT.out; omega, by have := HMI.out; omega, by simp, rfl, rfl, by rw [← E2.out]; exact TZ.out, by rw [← E1.out]; exact SZ.out, HI2.out, (HIF.out).sent, fun _ => by rw [G2.out, HN.out]; exact Nat.lt_succ_self _, by show newsOk sf s2.next; rw [G4.out]; exact HNF.out, LZ.out, FZ.out⟩, by have := HLT.out; simp [intOf]; omega⟩
    · as_aux_lemma =>
      have tl : decide ((i : Int) < (nl : Int)) = false := decide_eq_false (by omega)
      have tl' : decide (i < nl) = false := decide_eq_false hlt
      have m40 : m ≤ 40 := by have := H40.out; omega
      have M40 := Lib.hid m40
      have i50 : ∀ {k : List UInt8} {d : Bool} {s : Lk}, LkI k d i s → LkI k d 50 s := fun h => ⟨h.made, h.key, h.down, by have := h.next; have := H40.out; omega, h.stamp, h.eat, h.may⟩
      have U0 := Lib.hid hU
      have D0 := Lib.hid hD
      have IU0 := Lib.hid (i50 hIU)
      have ID0 := Lib.hid (i50 hID)
      have LV0 := Lib.hid hLV
      have F0 := Lib.hid hF
      clear hlt hi hmi m40 i50 hU hD hIU hID hNU hND hLV hF HCE HRD HSG HNX
      go_upto_region 34 with (fail)
      go_loopw [23] (fun v23 wq => ∃ (j : Nat) (su sd : Lk), j ≤ m ∧ v23 = .int .i64 (j : Int) ∧ LkV wq pu su ∧ LkV wq pd sd ∧ LkI key false 50 su ∧ LkI key true 50 sd ∧ LateV code mark w.heap.size wq (.slice A9 m c9) (.slice A10 m c10) m L ∧ Fr0 w wq) (fun v23 _ => m - (intOf v23).toNat)
      case atStart => exact ⟨0, su, sd, by omega, rfl, U0.out, D0.out, IU0.out, ID0.out, LV0.out, F0.out⟩
      case round =>
        obtain ⟨j, su2, sd2, hj, rfl, hU, hD, hIU, hID, hLV, hF⟩ := hrel
        clear U0 D0 IU0 ID0 LV0 F0 tl tl'
        have F := Lib.hid hF
        by_cases hjm : j < m
        · have tl : decide ((j : Int) < (m : Int)) = true := decide_eq_true (by omega)
          have tl' : decide (j < m) = true := decide_eq_true hjm
          have qj : IntKind.i64.wrap ((j : Int) + 1) = (j : Int) + 1 := IntWalk.i64_in _ (by have := M40.out; omega)
          have hjl : j < L.length := by rw [hLV.len]; exact hjm
          obtain ⟨g9, o9, h9, hc9, -, hx9⟩ := Rd.cellA (Rd.of_own hLV.r9) hjm
          obtain ⟨g10, o10, h10, hc10, -, hx10⟩ := Rd.cellA (Rd.of_own hLV.r10) hjm
          have hok := hLV.ok _ (List.getElem_mem hjl)
          obtain ⟨⟨zv, up, n, x, y, t⟩, hz⟩ : ∃ z, z = L[j] := ⟨_, rfl⟩
          rw [← hz] at hok
          have e9 : wr.cell? ⟨g9, o9 + j, none⟩ = some zv := by
            have := hx9 0 zv (by simp [hjl, ← hz])
            simpa using this
          have e10 : wr.cell? ⟨g10, o10 + j, none⟩ = some (.bool up) := by
            have := hx10 0 (.bool up) (by simp [hjl, ← hz])
            simpa using this
          obtain ⟨hr, hty, hn, hx, hy, hl⟩ := hok
          simp only [] at hr hty hn hx hy hl
          obtain ⟨Az, cz, rfl, -, -, -⟩ := hr.form
          obtain ⟨mz, hmz⟩ : ∃ k, k = (pkL code mark (!up) n x y t).length := ⟨_, rfl⟩
          rw [← hmz] at hr hty e9
          have RZ := Lib.hid hr
          have LV := Lib.hid hLV
          have hj0 : (0 : Int) ≤ (j : Int) := by omega
          have hj1 : (j : Int) < (m : Int) := by omega
          have HJ := Lib.hid hjm
          have HNn := Lib.hid hn
          have HX := Lib.hid hx
          have HY := Lib.hid hy
          have HL := Lib.hid hl
          obtain ⟨pt, st, hsel⟩ : ∃ pt st, (up = true ∧ pt = pd ∧ st = sd2) ∨ (up = false ∧ pt = pu ∧ st = su2) := by
            cases up
            · exact ⟨pu, su2, .inr ⟨rfl, rfl, rfl⟩⟩
            · exact ⟨pd, sd2, .inl ⟨rfl, rfl, rfl⟩⟩
          have hST : LkV wr pt st := by rcases hsel with ⟨-, rfl, rfl⟩ | ⟨-, rfl, rfl⟩ <;> assumption
          have hIT : LkI key up 50 st := by rcases hsel with ⟨rfl, -, rfl⟩ | ⟨rfl, -, rfl⟩ <;> assumption
          have LT := Lib.hid (show w.heap.size ≤ pt by rcases hsel with ⟨-, rfl, -⟩ | ⟨-, rfl, -⟩; exact LD.out; exact LU.out)
          have ST := Lib.hid hST
          have IT := Lib.hid hIT
          have UU := Lib.hid hU
          have DD := Lib.hid hD
          have IU := Lib.hid hIU
          have ID := Lib.hid hID
          have HSEL := Lib.hid hsel
          have HS2 := Lib.hid (fun W q (h : LkV W pt st) (h' : LkV W q st) => same_any h h' hIT.made)
          have HC2 := Lib.hid (fun W (h : LkV W pt st) => lcopy_any h)
          have HW2 := Lib.hid (fun W (h : LkV W pt st) => HNW.out W pt st h hIT.made)
          have HOK := Lib.hid (show hearOk 2147483648 3 from ⟨by decide, by decide⟩)
          have e9s := h9
          have e10s := h10
          subst h9 h10
          clear hz hjl hjm hj hmz hr hty hn hx hy hl hU hD hIU hID hLV hF hsel hST hIT hx9 hx10 e9s e10s
          go_upto_if 213 with (fail)
          go_cut [24] (fun s24 wx => s24 = .pointer (some ⟨pt, 0, none⟩) ∧ wx = wr)
          case first =>
            rcases HSEL.out with ⟨hup, e1, -⟩ | ⟨hup, e1, -⟩
            · subst hup
              clear HSEL
              go_wp2_with fail
              go_meet
              exact ⟨by rw [e1], rfl⟩
            · subst hup
              clear HSEL
              go_wp2_with fail
              go_meet
              exact ⟨by rw [e1], rfl⟩
          case rest =>
            obtain ⟨rfl, rfl⟩ := hcut
            by_cases hold : st.heard = true ∧ n ≤ st.newest
            · have HH := Lib.hid (fun W v (h : LkV W pt st) (hb : RdB W v (pkL code mark (!up) n x y t)) => HHO.out W pt st up v 2147483648 3 n x y t h IT.out HOK.out hb HNn.out HL.out HX.out HY.out hold)
              rw [hold.1] at HW2
              clear hold
              go_wp2_with (first
                | (have _q := G4; go_at_call 24; refine (HS2.out _ _ T4.out C4.out).mono ?_; rintro e w5 ⟨rfl, hf⟩; have GZ := Lib.hid (Fr0.trans G4.out hf); clear hf)
                | (have _q := G3; go_at_call 20; refine (HW2.out _ T3.out).mono ?_; rintro e w4 ⟨rfl, hf⟩; have G4 := Lib.hid (Fr0.trans G3.out hf); have T4 := Lib.hid ((T3.out).fr0 hf); have C4 := Lib.hid ((C3.out).fr0 hf); clear hf)
                | (have _q := C2; go_at_call 11; refine (HH.out _ _ T2.out ((RZ.out).fr0 G2.out)).mono ?_; rintro e w3 ⟨A3, c3, rfl, hf⟩; have G3 := Lib.hid (Fr0.trans G2.out hf); have T3 := Lib.hid ((T2.out).fr0 hf); have C3 := Lib.hid ((C2.out).fr0 hf); clear hf)
                | (have _q := G1; go_at_call 18; refine (HC2.out _ T1.out).mono ?_; rintro e w2 ⟨pk, rfl, hL, -, hf⟩; have G2 := Lib.hid (Fr0.trans G1.out hf); have T2 := Lib.hid ((T1.out).fr0 hf); have C2 := Lib.hid hL; have e9 := Fr0.cell G2.out e9; clear hf hL)
                | (go_at_call 20; refine (HW2.out _ ST.out).mono ?_; rintro e w1 ⟨rfl, hf⟩; have G1 := Lib.hid hf; have T1 := Lib.hid ((ST.out).fr0 hf); clear hf))
              exact ⟨⟨j + 1, su2, sd2, by have := HJ.out; omega, by simp, (UU.out).fr0 GZ.out, (DD.out).fr0 GZ.out, IU.out, ID.out, (LV.out).fr0 GZ.out, Fr0.trans F.out GZ.out⟩, by have := HJ.out; simp [intOf]; omega⟩
            · have HH := Lib.hid (fun W v (h : LkV W pt st) (hb : RdB W v (pkL code mark (!up) n x y t)) => HHE.out W pt st up v 2147483648 3 n x y t h IT.out HOK.out hb HNn.out HL.out HX.out HY.out hold)
              have IT2 := Lib.hid ((IT.out).hear (now := 2147483648) (frm := 3) (n := n) (x := x) (y := y) ⟨by decide, by decide⟩ HX.out)
              have K1 := hearLk_heard st 2147483648 3 n x y
              have K2 := hearLk_newest st 2147483648 3 n x y
              obtain ⟨s2, hs2⟩ : ∃ s, s = hearLk st 2147483648 3 n x y := ⟨_, rfl⟩
              rw [← hs2] at HH IT2 K1 K2
              have HW3 := Lib.hid (fun W (h : LkV W pt s2) => show Calls Try.prog 20 #[.pointer (some ⟨pt, 0, none⟩)] W (fun e w' => e = .returned (.tuple #[.int .u64 (n : Int), .bool true]) ∧ Fr0 W w') by
                have h2 := HNW.out W pt s2 h (IT2.out).made
                rw [K1, K2] at h2
                exact h2)
              have qh : st.heard = false ∨ st.heard = true ∧ decide ((n : Int) ≤ (st.newest : Int)) = false ∧ decide (n ≤ st.newest) = false := by
                cases hh : st.heard
                · exact .inl rfl
                · exact .inr ⟨rfl, decide_eq_false (fun h => hold ⟨hh, by omega⟩), decide_eq_false (fun h => hold ⟨hh, h⟩)⟩
              clear hold hs2 K1 K2
              rcases qh with qh | ⟨qh, qn, qn'⟩
              all_goals (
                rw [qh] at HW2
                clear qh
                go_wp2_with (first
                  | (have _q := G3; go_at_call 20; refine (HW3.out _ T3.out).mono ?_; rintro e w4 ⟨rfl, hf⟩; have GZ := Lib.hid (Fr1.trans G3.out (Fr1.of0 hf)); have T4 := Lib.hid ((T3.out).fr0 hf); have L4 := Lib.hid ((L3.out).fr0 hf); clear hf)
                  | (have _q := T2; go_at_call 11; refine (HH.out _ _ T2.out ((RZ.out).fr0 G2.out)).mono ?_; rintro e w3 ⟨A3, c3, rfl, ho, hL, hf⟩; have G3 := Lib.hid (Fr1.trans (Fr1.of0 G2.out) hf); have T3 := Lib.hid hL; have L3 := Lib.hid (((LV.out).fr0 G2.out).link T2.out hf); clear hf hL ho)
                  | (have _q := G1; go_at_call 18; refine (HC2.out _ T1.out).mono ?_; rintro e w2 ⟨pk, rfl, hL, -, hf⟩; have G2 := Lib.hid (Fr0.trans G1.out hf); have T2 := Lib.hid ((T1.out).fr0 hf); have e9 := Fr0.cell G2.out e9; clear hf hL)
                  | (go_at_call 20; refine (HW2.out _ ST.out).mono ?_; rintro e w1 ⟨rfl, hf⟩; have G1 := Lib.hid hf; have T1 := Lib.hid ((ST.out).fr0 hf); clear hf))
                rcases HSEL.out with ⟨hup, e1, e2⟩ | ⟨hup, e1, e2⟩
                · exact ⟨⟨j + 1, su2, s2, by have := HJ.out; omega, by simp, (UU.out).fr1 GZ.out (by rw [e1]; exact NE.out), by rw [← e1]; exact T4.out, IU.out, by have h := IT2.out; rw [hup] at h; exact h, L4.out, Fr0.new F.out GZ.out LT.out⟩, by have := HJ.out; simp [intOf]; omega⟩
                · exact ⟨⟨j + 1, s2, sd2, by have := HJ.out; omega, by simp, by rw [← e1]; exact T4.out, (DD.out).fr1 GZ.out (by rw [e1]; exact fun e => NE.out e.symm), by have h := IT2.out; rw [hup] at h; exact h, ID.out, L4.out, Fr0.new F.out GZ.out LT.out⟩, by have := HJ.out; simp [intOf]; omega⟩)
        · have tl : decide ((j : Int) < (m : Int)) = false := decide_eq_false (by omega)
          have tl' : decide (j < m) = false := decide_eq_false hjm
          clear hjm hj hU hD hIU hID hLV hF
          go_wp2_with fail
          go_ret
          exact ⟨rfl, F.out⟩

namespace LinkThrough
open Go.ChangeShapes Go.WideShapes Go.ChangeAt
open Go.ChangeMaps (open_string shut_string)

theorem own : ownKnob Try.prog.godebug = none := by kernel_rfl
theorem laidOut : laidOutB Try.prog = true := by kernel_rfl

set_option maxRecDepth 100000 in
theorem lifted (os : Os) (started : os.Started) (H : Type) (enc : TypeId × Value → H) :
    ReturnsInHanded {} Try.checked os 7 .any (Rows.linkThroughSpec.pre6 enc Try.prog Try.f7 Rows.linkThroughRow.domain false) (Rows.linkThroughSpec.post enc Try.prog Try.f7 false true false false) := by
  refine returnsInHanded_of_change (C := Try.checked) own started (by kernel_rfl) Try.func7
    (ChangeSpec.witness6 (enc := enc) (C := Try.checked) false ⟨#[], #[.agg (Array.replicate 48 (.int .u8 0)), .slice none 0 0], []⟩ 8 (by kernel_rfl) (by kernel_rfl) (by kernel_rfl) (by kernel_rfl)) ?_
  intro W base args ds gs before hval0 hW hcnd _
  have hval : ∀ (j : Nat) t v, Try.f7.params[j]? = some t → args[j]? = some v → Value.okWide Try.prog W .any base t v := hval0
  have hW' := hW
  obtain ⟨p, q, hA0, hV, rfl, hfz, hnd⟩ := hW
  have hA : DataW.TrodAll enc Try.prog W 0 (fun _ => true) true Try.f7.params.toList args.toList ds p := hA0
  rw [Try.params7] at hA hval
  obtain ⟨v0, vs0, d0', ds0, p0, q0, hargs, rfl, rfl, h0, r0⟩ := trodAll_cons hA
  obtain ⟨v1, vs1, d1', ds1, p1, q1, rfl, rfl, rfl, h1, r1⟩ := trodAll_cons r0
  obtain ⟨rfl, rfl, rfl⟩ := trodAll_nil r1
  obtain rfl : args = #[v0, v1] := by cases args; simp_all
  obtain ⟨rfl, rfl⟩ := trodVars_none hV
  have k0 := h0
  have lt0 : ∀ x ∈ p0, x.block < W.heap.size := by obtain ⟨m, hm⟩ := k0; exact DataW.trod_lt m _ _ _ hm
  obtain ⟨code0, mark0, rfl, hc0, hm0⟩ := arg_key (hval 0 25 v0 rfl rfl) h0
  have k1 := h1
  have lt1 : ∀ x ∈ p1, x.block < W.heap.size := by obtain ⟨m, hm⟩ := k1; exact DataW.trod_lt m _ _ _ hm
  obtain ⟨A1, n1, c1, rfl⟩ := okWide_slice Try.underlying70 (hval 1 70 v1 rfl rfl)
  obtain ⟨fuel1, hf1⟩ := h1
  obtain ⟨l1, hy1, hz1⟩ := arg_of wayC (WayIn W) (by decide) wayC_len Try.underlying70 (by kernel_rfl) (fun n cs x h => (fun h => read_way h) h) hf1
  clear hA0 hval0
  refine (linkThrough_any hc0 hm0 hy1 hz1).mono fun e W' ⟨he, hfr⟩ => ?_
  have bel : Below W.heap.size W W' := Fr0.below hfr
  subst he
  exact ⟨_, rfl, _, _, _, [], _, [], hW', trodAll_mk1 (shut_bool Try.underlying4 _), (trodAll_cons_mk (Below.trod laidOut (by kernel_rfl) (of_decide_eq_true (by kernel_rfl)) k0 bel lt0) (trodAll_cons_mk (Below.trod laidOut (by kernel_rfl) (of_decide_eq_true (by kernel_rfl)) k1 bel lt1) trodAll_mk0)), rfl, bel.frame _, fun h => by cases h⟩

theorem over : Rows.linkThroughRow.holds Try.pinned (OpenSpec.ofChange Rows.linkThroughSpec) :=
  OpenClaim.holds_of_wide 7 Try.f7 rfl rfl rfl rfl rfl rfl rfl ⟨rfl, rfl, rfl, rfl, rfl⟩ rfl rfl rfl rfl rfl (by kernel_rfl) Try.func7 (by kernel_rfl)
    (of_decide_eq_true (by kernel_rfl)) (by unfold Func.isWrapper; first | (rw [if_pos (by decide +kernel)]; kernel_rfl) | (rw [if_neg (by decide +kernel)]; exact ⟨rfl, rfl⟩))
    (fun os started H enc _ => lifted os started H enc)

theorem proved : Rows.LinkThroughSaid := over
#print axioms proved
end LinkThrough
end Go.Proofs.Ytgcjbbliaelkcaa
