/- The sender's again: the newest one told again, if it is due. Conditions stand in the statements. -/
import Derived.Test.YtomdlfeaecknfaaOutState
namespace Go.Proofs.Ytomdlfeaecknfaa
open Go.RowKit

theorem own_setCell {w : World} {base size g cap n : Nat} {t : TypeId} {xs : List Value} (h : w.ownsRow base t size (.slice (some ⟨g, 0, none⟩) n cap) n xs) {k : Nat} (u : Value) :
    (w.setCell ⟨g, k, none⟩ u).ownsRow base t size (.slice (some ⟨g, 0, none⟩) n cap) n (xs.set k u) := by
  refine ⟨by rw [List.length_set]; exact h.1, ?_⟩
  rcases h.2 with ⟨h1, _⟩ | ⟨g', cap', cur, hv, hb, hg, hnc, hcm, hcs, ht⟩
  · cases h1
  · injection hv with hA _ hcc
    injection hA with hA
    injection hA with hA
    subst hA hcc
    refine .inr ⟨g, cap, cur.setIfInBounds k u, rfl, hb, (show Blk w g cur t from hg).set k u, hnc, hcm, by simpa using hcs, ?_⟩
    rw [← ht, Array.toList_setIfInBounds, List.take_set]
theorem own_cell {w : World} {base size g cap n : Nat} {t : TypeId} {xs : List Value} (h : w.ownsRow base t size (.slice (some ⟨g, 0, none⟩) n cap) n xs) {k : Nat} {u : Value} (hu : xs[k]? = some u) : w.cell? ⟨g, k, none⟩ = some u ∧ w.frozen? ⟨g, k, none⟩ = false := by
  rcases h.2 with ⟨h1, _⟩ | ⟨g', cap', cur, hv, hb, hg, hnc, hcm, hcs, ht⟩
  · cases h1
  · injection hv with hA _ hcc
    injection hA with hA
    injection hA with hA
    subst hA
    refine ⟨Blk.cell (vs := cur) (t := t) hg k ?_, Blk.free (vs := cur) (t := t) hg k⟩
    rw [← ht, List.getElem?_take] at hu
    split at hu
    · simpa using hu
    · cases hu
theorem own_blk {w : World} {base size g cap n : Nat} {t : TypeId} {xs : List Value} (h : w.ownsRow base t size (.slice (some ⟨g, 0, none⟩) n cap) n xs) : ∃ cur, Blk w g cur t := by
  rcases h.2 with ⟨h1, _⟩ | ⟨g', cap', cur, hv, hb, hg, _⟩
  · cases h1
  · injection hv with hA
    injection hA with hA
    injection hA with hA
    subst hA
    exact ⟨cur, hg⟩
theorem own_some {w : World} {base size n : Nat} {t : TypeId} {A : Option Addr} {c : Nat} {xs : List Value} (h : w.ownsRow base t size (.slice A n c) n xs) (hn : 0 < n) : ∃ g, A = some ⟨g, 0, none⟩ := by
  rcases h.2 with ⟨h1, _⟩ | ⟨g', cap', cur, hv, _⟩
  · injection h1 with _ h1; omega
  · injection hv with hA; exact ⟨g', hA⟩
theorem flat_setLast {l : List Snt} (h : 0 < l.length) (now : Int) : flat sntC (setLast l now) = (flat sntC l).set ((l.length - 1) * 4 + 3) (.int .i64 now) := by
  unfold setLast
  rw [flat_app, flat_one]
  have e : l = l.take (l.length - 1) ++ [lastS l] := by
    conv => lhs; rw [← List.take_append_drop (l.length - 1) l]
    rw [drop_last h]
  have e2 : flat sntC l = flat sntC (l.take (l.length - 1)) ++ sntC (lastS l) := by
    conv => lhs; rw [e]
    rw [flat_app, flat_one]
  have hl : (flat sntC (l.take (l.length - 1))).length = (l.length - 1) * 4 := by rw [flat_len sntC_len, List.length_take]; congr 1; omega
  rw [e2, List.set_append_right _ _ (by omega), hl, show (l.length - 1) * 4 + 3 - (l.length - 1) * 4 = 3 from by omega]
  rfl
theorem oret_again {tmps : Array Value} {W : World} {g : Nat} {cs : Array Value} {u : Value} (hg : Blk W g cs 37) (hs : cs.size = 5) (h2 : tmps.getD 6 undef = .pointer (some ⟨g, 0, none⟩)) (h3 : tmps.getD 7 undef = u) :
    (results Try.f27 tmps).run Try.prog W = .ok (.tuple #[.agg cs, u]) W := by
  rw [results_cell_tmp rfl, h2, h3]
  have hl := run_loadVar_row (P := Try.prog) W g 37 37 cs (0, 0) _ hg Try.underlying37 rfl (by rw [hs]; kernel_rfl)
  simp [asAddr, Result.andThen, hl]

set_option maxHeartbeats 4000000 in
set_option maxRecDepth 100000 in
theorem again_any {p : Nat} {fs fd : Value} {A : Option Addr} {c : Nat} {o : OutD} {w : World} (hs : SameFn fs) (hd : DiffFn fd) (h : OutV w p fs fd A c o) (hok : OutOk o) (hsz : ∀ x ∈ o.all, x.s.size ≤ 100000) (now wait : Int) (h0 : 0 ≤ now ∧ now ≤ 1099511627776) :
    Calls Try.prog 27 #[.pointer (some ⟨p, 0, none⟩), .int .i64 now, .int .i64 wait] w fun e w' => StateEnd fs fd p o (againP o now wait) w e w' := by
  obtain ⟨f1, rfl, -, -⟩ := hs
  have hpos := hok.pos
  have hle := hok.le
  obtain ⟨g, off, rfl, hg, hcap⟩ := h.addr hpos
  have l63 := h.rd.le63
  have D := Lib.hid hd
  have HZ := Lib.hid (h.fr0 ((Fr0.refl w).alloc (.cells #[.int .i64 0, .int .i64 0, .int .i64 0, .int .i64 0, .slice none 0 0] 37)))
  have BZ := Lib.hid (Blk.new w #[.int .i64 0, .int .i64 0, .int .i64 0, .int .i64 0, .slice none 0 0] 37)
  have HP := Lib.hid (show againP o now wait = if againDue o.all now wait = true then
    if okStep (baseS o.all).s (lastS o.all).s = true then some ⟨setLast o.all now, (baseS o.all).n, (lastS o.all).n, diffT (baseS o.all).s (lastS o.all).s⟩ else none else none from rfl)
  have HDU := Lib.hid (show againDue o.all now wait = (decide (o.all.length ≠ 1) && !since (lastS o.all).told (lastS o.all).at_ now wait) from rfl)
  obtain ⟨r, hr⟩ : ∃ r, r = againP o now wait := ⟨_, rfl⟩
  rw [← hr] at HP ⊢
  obtain ⟨du, hdu⟩ : ∃ du, du = againDue o.all now wait := ⟨_, rfl⟩
  rw [← hdu] at HP HDU
  have hp := h.blk.lt
  have hbs : (baseS o.all).s.size ≤ 100000 := hsz _ (baseS_mem hpos)
  have hls : (lastS o.all).s.size ≤ 100000 := hsz _ (lastS_mem hpos)
  have lat := hok.at0 _ (lastS_mem hpos)
  obtain ⟨lst, hlst⟩ : ∃ x, x = lastS o.all := ⟨_, rfl⟩
  obtain ⟨b0, hb0⟩ : ∃ x, x = baseS o.all := ⟨_, rfl⟩
  rw [← hlst, ← hb0] at HP
  rw [← hlst] at HDU hls lat
  rw [← hb0] at hbs
  have hSi := Lib.hid (fun W => since_any lst.told lst.at_ now wait W (by omega) (by omega))
  obtain ⟨sb, hsb⟩ : ∃ sb, sb = since lst.told lst.at_ now wait := ⟨_, rfl⟩
  rw [← hsb] at HDU hSi
  obtain ⟨j, hj⟩ : ∃ j, j = o.all.length - 1 := ⟨_, rfl⟩
  have HLst := Lib.hid hlst
  have HB0 := Lib.hid hb0
  have HJ := Lib.hid hj
  have HL := Lib.hid (show Calls Try.prog 32 #[.pointer (some ⟨p, 0, none⟩)] (w.alloc (.cells #[.int .i64 0, .int .i64 0, .int .i64 0, .int .i64 0, .slice none 0 0] 37)) (fun e w' => e = .returned (.pointer (some ⟨g, off + j * 4, none⟩)) ∧ ∃ n, w' = (w.alloc (.cells #[.int .i64 0, .int .i64 0, .int .i64 0, .int .i64 0, .slice none 0 0] 37)).drewN n) by rw [hj]; exact last_any HZ.out hpos)
  have HF := Lib.hid (fun (W : World) (hf : Fr0 (w.alloc (.cells #[.int .i64 0, .int .i64 0, .int .i64 0, .int .i64 0, .slice none 0 0] 37)) W) => (HZ.out).fr0 hf)
  have HLc := Lib.hid (fun (W : World) (hf : Fr0 (w.alloc (.cells #[.int .i64 0, .int .i64 0, .int .i64 0, .int .i64 0, .slice none 0 0] 37)) W) => by have := ((HZ.out).fr0 hf).cellAt (i := o.all.length - 1) (by omega); rw [← last_eq hpos, ← hlst, ← hj] at this; exact this)
  have HBc := Lib.hid (fun (W : World) (hf : Fr0 (w.alloc (.cells #[.int .i64 0, .int .i64 0, .int .i64 0, .int .i64 0, .slice none 0 0] 37)) W) => by have := ((HZ.out).fr0 hf).cellAt (i := 0) hpos; rw [← base_eq hpos, ← hb0] at this; simp only [Nat.zero_mul, Nat.add_zero] at this; exact this)
  clear h hd hok hsz hr hdu hsb hlst hb0 hj
  go_enter Try.func27, Try.ntmps27
  go_upto_region 2 with (go_at_call 32; refine (HL.out).mono ?_; rintro e w1 ⟨rfl, n, hw⟩; have F1 := Lib.hid (show Fr0 (w.alloc (.cells #[.int .i64 0, .int .i64 0, .int .i64 0, .int .i64 0, .slice none 0 0] 37)) w1 by rw [hw]; exact (Fr0.refl _).drewN n); clear hw)
  have c3 : w1.cell? ⟨p, 3, none⟩ = some (.slice (some ⟨g, off, none⟩) o.all.length c) := (HF.out _ F1.out).blk.cell 3 rfl
  obtain ⟨-, -, t2, t3⟩ := HLc.out _ F1.out
  go_cut [31] (fun s wx => s = .bool (!du) ∧ Fr0 (w.alloc (.cells #[.int .i64 0, .int .i64 0, .int .i64 0, .int .i64 0, .slice none 0 0] 37)) wx)
  case first =>
    by_cases h1 : o.all.length = 1
    · have q1 : ((o.all.length : Int) == 1) = true := by simp; omega
      have q2 : (o.all.length == 1) = true := by simpa using h1
      have DU := Lib.hid (show du = false by rw [HDU.out, decide_eq_false (by omega)]; rfl)
      clear h1
      go_quiet (fail)
      go_wp2_with fail
      go_meet
      exact ⟨by rw [DU.out]; rfl, (F1.out).drewN _⟩
    · have q1 : ((o.all.length : Int) == 1) = false := by simp; omega
      have q2 : (o.all.length == 1) = false := by simpa using h1
      have DU := Lib.hid (show du = !sb by rw [HDU.out, decide_eq_true (by omega)]; rfl)
      clear h1
      go_quiet ((go_at_call 28; exact quiet_left (hSi.out _)))
      go_wp2_with fail
      go_meet
      exact ⟨by rw [DU.out]; simp, (F1.out).drewN _⟩
  case rest =>
    obtain ⟨rfl, hf⟩ := hcut
    clear hSi HL t2 t3 c3 F1
    generalize wc = w2 at *
    have F2 := Lib.hid hf
    have FW := Lib.hid (Fr0.trans ((Fr0.refl w).alloc _) hf)
    have B2 := Lib.hid ((BZ.out).fr0 hf)
    have H2 := Lib.hid (HF.out _ hf)
    clear hf
    by_cases hdu : du = true
    · have hl1 : 1 < o.all.length := by
        have h9 := HDU.out
        rw [hdu] at h9
        have := (Bool.and_eq_true _ _).mp h9.symm
        have := of_decide_eq_true this.1
        omega
      subst hdu
      have HP2 := Lib.hid ((HP.out).trans (by first | exact if_pos rfl | exact if_pos trivial))
      clear HP HDU
      obtain ⟨ok1, hok1⟩ : ∃ b, b = okStep b0.s lst.s := ⟨_, rfl⟩
      rw [← hok1] at HP2
      have O1 := Lib.hid hok1.symm
      clear hok1
      have il : (0 : Int) < (o.all.length : Int) := by omega
      go_upto_region 4 with (fail)
      have Q := Lib.hid ((F2.out).drew)
      go_region_held_law (fun w' => w'.cell? ⟨p, 3, none⟩ = some (.slice (some ⟨g, off, none⟩) o.all.length c) ∧ w'.cell? ⟨g, off, none⟩ = some (.int .i64 b0.n) ∧ w'.cell? ⟨g, off + 1, none⟩ = some (.string b0.s) ∧ w'.cell? ⟨g, off + 2, none⟩ = some (.bool b0.told) ∧ w'.cell? ⟨g, off + 3, none⟩ = some (.int .i64 b0.at_) ∧ w'.cell? ⟨g, off + j * 4 + 1, none⟩ = some (.string lst.s)) (first | exact ⟨(HF.out _ Q.out).blk.cell 3 rfl, (HBc.out _ Q.out).1, (HBc.out _ Q.out).2.1, (HBc.out _ Q.out).2.2.1, (HBc.out _ Q.out).2.2.2, (HLc.out _ Q.out).2.1⟩) ((go_at_call 34; refine (step_b D.out (HF.out _ Q.out) b0 lst.s hbs hls O1.out).mono ?_; rintro e w3 ⟨A1, n1, c1', rfl, hf, hr⟩; replace Q := Lib.hid ((Q.out).trans hf); have RD := Lib.hid hr; clear hf hr))
      by_cases k1 : ok1 = true
      · subst k1
        have HR := Lib.hid ((HP2.out).trans (by first | exact if_pos rfl | exact if_pos trivial))
        obtain ⟨hn, h1, h2⟩ := (RD.out) (by first | exact trivial | rfl)
        subst hn
        have R1 := Lib.hid (And.intro h1 h2)
        clear h1 h2 HP2 RD
        have HCl := Lib.hid (clone_snt (HF.out _ Q.out).rd (flat_mem sntC_one o.all) (by omega))
        have c3 : w3.cell? ⟨p, 3, none⟩ = some (.slice (some ⟨g, off, none⟩) o.all.length c) := (HF.out _ Q.out).blk.cell 3 rfl
        go_upto_region 8 with (go_at_call 31; refine (HCl.out).mono ?_; rintro e w4 ⟨v, rfl, hown, hf⟩; obtain ⟨A5, c5, rfl, -, -, -⟩ := own_form hown; have O4 := Lib.hid hown; have F4 := Lib.hid hf; have e3 : w4.cell? ⟨p, 3, none⟩ = some (.slice (some ⟨g, off, none⟩) o.all.length c) := ((HF.out _ Q.out).fr0 hf).blk.cell 3 rfl; have f3 : w4.frozen? ⟨p, 3, none⟩ = false := ((HF.out _ Q.out).fr0 hf).blk.free 3; clear hown hf)
        obtain ⟨g5, rfl⟩ := own_some O4.out hpos
        have H4 := (HF.out _ Q.out).fr0 F4.out
        have hs5 : Fr1 p w4 (w4.setCell ⟨p, 3, none⟩ (.slice (some ⟨g5, 0, none⟩) o.all.length c5)) := (Fr1.refl p w4).set 3 _
        have H5 := Lib.hid (OutV.setAll H4 rfl O4.out)
        have O5 := Lib.hid (own_fr O4.out hs5 (fun g hg e => own_ne O4.out H4.blk (by decide) g hg e))
        have F5 := Lib.hid (Fr1.trans (Fr1.of0 (Fr0.trans (Fr0.trans ((Fr0.refl w).alloc (.cells #[.int .i64 0, .int .i64 0, .int .i64 0, .int .i64 0, .slice none 0 0] 37)) Q.out) F4.out)) hs5)
        have B5 := Lib.hid (((BZ.out).fr0 (Fr0.trans Q.out F4.out)).fr1 hs5 (by omega))
        have R5 := Lib.hid (And.intro (Rd.frT ((R1.out).1.fr0 F4.out) ((R1.out).2.fr0 F4.out) hs5 H4.blk (by decide)) (((R1.out).2.fr0 F4.out).fr1 hs5 H4.blk (by decide)))
        have g5r := own_lt' O4.out g5 rfl
        have g5p : w3.heap.size ≤ g5 := g5r.1
        have g5w : g < w3.heap.size := by have := (Q.out).size; have h9 : ((w.alloc (.cells #[.int .i64 0, .int .i64 0, .int .i64 0, .int .i64 0, .slice none 0 0] 37))).heap.size = w.heap.size + 1 := by simp
                                          omega
        have xo := ((HLc.out _ Q.out).1)
        have X5 := Lib.hid (show (w4.setCell ⟨p, 3, none⟩ (.slice (some ⟨g5, 0, none⟩) o.all.length c5)).cell? ⟨g, off + j * 4, none⟩ = some (.int .i64 lst.n) from (World.cell?_of_block (hs5.block g (Nat.lt_of_lt_of_le g5w (F4.out).size) (fun e => (H4.ty g rfl).elim fun _ h => h.elim fun _ h => by
          have hb := H4.blk
          unfold Blk at hb
          rw [← e, h] at hb
          injection hb with hb
          injection hb with _ hb
          exact absurd hb (by decide)))).trans (Fr0.cell F4.out xo))
        clear e3 f3 c3 H4 hs5 O4 F4 R1 HCl
        generalize (w4.setCell ⟨p, 3, none⟩ (.slice (some ⟨g5, 0, none⟩) o.all.length c5)) = w5 at *
        have HL5 := Lib.hid (show Calls Try.prog 32 #[.pointer (some ⟨p, 0, none⟩)] w5 (fun e w' => e = .returned (.pointer (some ⟨g5, j * 4, none⟩)) ∧ ∃ n, w' = w5.drewN n) by have := last_any (H5.out) (by exact hpos); rw [HJ.out]; simpa using this)
        have xu : (flat sntC o.all)[j * 4 + 3]? = some (.int .i64 lst.at_) := by rw [HJ.out, flat_at sntC_len o.all _ (by omega) (by omega), HLst.out, last_eq hpos]; rfl
        have XU := Lib.hid xu
        clear xu
        go_upto_region 9 with (go_at_call 32; refine (HL5.out).mono ?_; rintro e w6 ⟨rfl, n6, hw⟩; have F6 := Lib.hid (show Fr0 w5 w6 by rw [hw]; exact (Fr0.refl _).drewN n6); have O6 := Lib.hid (own_fr O5.out F6.out (fun _ _ h => h)); have y3 : w6.cell? ⟨g5, j * 4 + 3, none⟩ = some (.int .i64 lst.at_) := (own_cell O6.out XU.out).1; have fy3 : w6.frozen? ⟨g5, j * 4 + 3, none⟩ = false := (own_cell O6.out XU.out).2; clear hw)
        have wg5 : w.heap.size < g5 := by have := (Q.out).size; have h9 : ((w.alloc (.cells #[.int .i64 0, .int .i64 0, .int .i64 0, .int .i64 0, .slice none 0 0] 37))).heap.size = w.heap.size + 1 := by simp
                                          omega
        have hs7 : Fr1 g5 w6 (w6.setCell ⟨g5, j * 4 + 3, none⟩ (.int .i64 now)) := (Fr1.refl g5 w6).set _ _
        obtain ⟨cur6, hc6⟩ := own_blk O6.out
        have O7 := Lib.hid (show (w6.setCell ⟨g5, j * 4 + 3, none⟩ (.int .i64 now)).ownsRow w3.heap.size 64 4 (.slice (some ⟨g5, 0, none⟩) o.all.length c5) o.all.length (flat sntC (setLast o.all now)) by rw [flat_setLast hpos, ← HJ.out]; exact own_setCell O6.out _)
        have P6 := (H5.out).blk.fr0 F6.out
        have P7 := Lib.hid (P6.fr1 hs7 (by omega))
        have H7 : OutV (w6.setCell ⟨g5, j * 4 + 3, none⟩ (.int .i64 now)) p (.func (.func f1) #[] #[]) fd (some ⟨g5, 0, none⟩) c5 (withAll o (setLast o.all now)) := by
          have hlen := setLast_len hpos now
          refine ⟨?_, ?_, ?_⟩
          · show Blk _ p #[_, _, _, .slice _ (setLast o.all now).length c5, _, _, _] _
            rw [hlen]; exact P7.out
          · show Rd _ 4 (.slice _ (setLast o.all now).length c5) (setLast o.all now).length _
            rw [hlen]; exact Rd.of_own O7.out
          · show TyB _ (.slice _ (setLast o.all now).length c5) _
            rw [hlen]; exact TyB.of_own O7.out
        have HH7 := Lib.hid H7
        have F7 := Lib.hid (show Fr1 p w (w6.setCell ⟨g5, j * 4 + 3, none⟩ (.int .i64 now)) from Fr.setCell (p := ⟨g5, j * 4 + 3, none⟩) (Fr1.trans F5.out (Fr1.of0 F6.out)) (.inr (Nat.le_of_lt wg5)) _)
        have B7 := Lib.hid (((B5.out).fr0 F6.out).fr1 hs7 (by omega))
        have R7 := Lib.hid (And.intro (Rd.frT ((R5.out).1.fr0 F6.out) ((R5.out).2.fr0 F6.out) hs7 hc6 (by decide)) (((R5.out).2.fr0 F6.out).fr1 hs7 hc6 (by decide)))
        have gg5 : g ≠ g5 := by omega
        have gw6 : g < w6.heap.size := by have h8 := (F6.out).size; have h9 := (own_lt' O6.out g5 rfl).2; omega
        have X7 := Lib.hid (show (w6.setCell ⟨g5, j * 4 + 3, none⟩ (.int .i64 now)).cell? ⟨g, off + j * 4, none⟩ = some (.int .i64 lst.n) from (World.cell?_of_block (hs7.block g gw6 gg5)).trans (Fr0.cell F6.out X5.out))
        have Y7 := Lib.hid (show (w6.setCell ⟨g5, j * 4 + 3, none⟩ (.int .i64 now)).cell? ⟨g5, 0, none⟩ = some (.int .i64 b0.n) from (own_cell O7.out (by
          have h9 := flat_at sntC_len (setLast o.all now) 0 (by rw [setLast_len hpos]; exact hpos) (j := 0) (by omega)
          rw [Nat.zero_mul, Nat.zero_add] at h9
          rw [h9, ← base_eq (by rw [setLast_len hpos]; exact hpos), setLast_base hl1, ← HB0.out]
          rfl)).1)
        have W7 := Lib.hid (And.intro (And.intro (World.block_lt_of_cell? _ _ X7.out) (World.block_lt_of_cell? _ _ Y7.out)) (And.intro (show g ≠ w.heap.size by omega) (show g5 ≠ w.heap.size by omega)))
        clear hs7 hc6 H7 P6 F6 O6 F5 O5 H5 B5 R5 X5 HL5 y3 fy3 XU O7
        generalize (w6.setCell ⟨g5, j * 4 + 3, none⟩ (.int .i64 now)) = w7 at *
        have NS := Lib.hid (fun (w' : World) (h : Fr1 w.heap.size w7 w') => show w'.cell? ⟨p, 3, none⟩ = some (.slice (some ⟨g5, 0, none⟩) o.all.length c5) ∧ w'.cell? ⟨g5, 0, none⟩ = some (.int .i64 b0.n) ∧ w'.cell? ⟨g, off + j * 4, none⟩ = some (.int .i64 lst.n) from
          ⟨((P7.out).fr1 h (by omega)).cell 3 rfl, (World.cell?_of_block (a := ⟨g5, 0, none⟩) (h.block g5 (W7.out).1.2 (W7.out).2.2)).trans Y7.out, (World.cell?_of_block (a := ⟨g, off + j * 4, none⟩) (h.block g (W7.out).1.1 (W7.out).2.1)).trans X7.out⟩)
        have Q1 := Lib.hid ((Fr1.refl w.heap.size w7).drew)
        have u0 : (w7).cell? ⟨w.heap.size, 0, none⟩ = some (.int .i64 0) := (B7.out).cell 0 rfl
        have u1 : (w7).cell? ⟨w.heap.size, 1, none⟩ = some (.int .i64 0) := (B7.out).cell 1 rfl
        have u2 : (w7).cell? ⟨w.heap.size, 2, none⟩ = some (.int .i64 0) := (B7.out).cell 2 rfl
        have u3 : (w7).cell? ⟨w.heap.size, 3, none⟩ = some (.int .i64 0) := (B7.out).cell 3 rfl
        have u4 : (w7).cell? ⟨w.heap.size, 4, none⟩ = some (.slice none 0 0) := (B7.out).cell 4 rfl
        have v0 : (w7).frozen? ⟨w.heap.size, 0, none⟩ = false := (B7.out).free 0
        have v1 : (w7).frozen? ⟨w.heap.size, 1, none⟩ = false := (B7.out).free 1
        have v2 : (w7).frozen? ⟨w.heap.size, 2, none⟩ = false := (B7.out).free 2
        have v3 : (w7).frozen? ⟨w.heap.size, 3, none⟩ = false := (B7.out).free 3
        have v4 : (w7).frozen? ⟨w.heap.size, 4, none⟩ = false := (B7.out).free 4
        go_region_held_law (fun w' => w'.cell? ⟨p, 3, none⟩ = some (.slice (some ⟨g5, 0, none⟩) o.all.length c5) ∧ w'.cell? ⟨g5, 0, none⟩ = some (.int .i64 b0.n) ∧ w'.cell? ⟨g, off + j * 4, none⟩ = some (.int .i64 lst.n)) (first | with_reducible exact NS.out _ Q1.out | with_reducible exact NS.out _ (fr1_set5o (Fr1.refl w.heap.size w7) _ _ _ _ _) | with_reducible exact NS.out _ (Fr1.drew (fr1_set5o (Fr1.refl w.heap.size w7) _ _ _ _ _))) (fail)
        go_wp21
        have h5 := Fr1.drew (fr1_set5o (Fr1.refl w.heap.size w7) (.int .i64 b0.n) (.int .i64 lst.n) (.int .i64 0) (.int .i64 0) (.slice A1 (diffT b0.s lst.s).length c1'))
        refine bodyPost_ret (v := .tuple #[.agg #[.int .i64 b0.n, .int .i64 lst.n, .int .i64 0, .int .i64 0, .slice A1 (diffT b0.s lst.s).length c1'], .bool true]) (oret_again ((blk_set5o (B7.out) _ _ _ _ _).drew) rfl rfl rfl) rfl ⟨(frS_set5 (F7.out) (Nat.le_refl _) _ _ _ _ _).drew, ?_⟩
        rw [HR.out]
        exact ⟨some ⟨g5, 0, none⟩, c5, A1, c1', rfl, (HH7.out).fr1 h5 B7.out (by omega) (by decide), Rd.frT (R7.out).1 (R7.out).2 h5 B7.out (by decide), (R7.out).2.fr1 h5 B7.out (by decide)⟩
      · obtain rfl : ok1 = false := by simpa using k1
        have HR := Lib.hid ((HP2.out).trans (by first | exact if_neg (by simp) | exact if_neg (by trivial)))
        clear k1 HP2
        have B3 := Lib.hid ((BZ.out).fr0 Q.out)
        have H3 := Lib.hid (HF.out _ Q.out)
        have F3 := Lib.hid (Fr0.trans ((Fr0.refl w).alloc (.cells #[.int .i64 0, .int .i64 0, .int .i64 0, .int .i64 0, .slice none 0 0] 37)) Q.out)
        have u0 : (w3).cell? ⟨w.heap.size, 0, none⟩ = some (.int .i64 0) := (B3.out).cell 0 rfl
        have u1 : (w3).cell? ⟨w.heap.size, 1, none⟩ = some (.int .i64 0) := (B3.out).cell 1 rfl
        have u2 : (w3).cell? ⟨w.heap.size, 2, none⟩ = some (.int .i64 0) := (B3.out).cell 2 rfl
        have u3 : (w3).cell? ⟨w.heap.size, 3, none⟩ = some (.int .i64 0) := (B3.out).cell 3 rfl
        have u4 : (w3).cell? ⟨w.heap.size, 4, none⟩ = some (.slice none 0 0) := (B3.out).cell 4 rfl
        have v0 : (w3).frozen? ⟨w.heap.size, 0, none⟩ = false := (B3.out).free 0
        have v1 : (w3).frozen? ⟨w.heap.size, 1, none⟩ = false := (B3.out).free 1
        have v2 : (w3).frozen? ⟨w.heap.size, 2, none⟩ = false := (B3.out).free 2
        have v3 : (w3).frozen? ⟨w.heap.size, 3, none⟩ = false := (B3.out).free 3
        have v4 : (w3).frozen? ⟨w.heap.size, 4, none⟩ = false := (B3.out).free 4
        go_wp21
        refine bodyPost_ret (v := .tuple #[.agg #[.int .i64 0, .int .i64 0, .int .i64 0, .int .i64 0, .slice none 0 0], .bool false]) (oret_again (blk_set5o B3.out _ _ _ _ _) rfl rfl rfl) rfl ⟨Fr1.of0 (fr_set5o F3.out (Nat.le_refl _) _ _ _ _ _), ?_⟩
        rw [HR.out]
        exact ⟨rfl, _, _, (H3.out).fr1 (fr1_set5o (Fr1.refl _ _) _ _ _ _ _) B3.out (by omega) (by decide)⟩
    · obtain rfl : du = false := by simpa using hdu
      have HP2 := Lib.hid ((HP.out).trans (by first | exact if_neg (by simp) | exact if_neg (by trivial)))
      clear HP hdu
      have u0 : (w2).cell? ⟨w.heap.size, 0, none⟩ = some (.int .i64 0) := (B2.out).cell 0 rfl
      have u1 : (w2).cell? ⟨w.heap.size, 1, none⟩ = some (.int .i64 0) := (B2.out).cell 1 rfl
      have u2 : (w2).cell? ⟨w.heap.size, 2, none⟩ = some (.int .i64 0) := (B2.out).cell 2 rfl
      have u3 : (w2).cell? ⟨w.heap.size, 3, none⟩ = some (.int .i64 0) := (B2.out).cell 3 rfl
      have u4 : (w2).cell? ⟨w.heap.size, 4, none⟩ = some (.slice none 0 0) := (B2.out).cell 4 rfl
      have v0 : (w2).frozen? ⟨w.heap.size, 0, none⟩ = false := (B2.out).free 0
      have v1 : (w2).frozen? ⟨w.heap.size, 1, none⟩ = false := (B2.out).free 1
      have v2 : (w2).frozen? ⟨w.heap.size, 2, none⟩ = false := (B2.out).free 2
      have v3 : (w2).frozen? ⟨w.heap.size, 3, none⟩ = false := (B2.out).free 3
      have v4 : (w2).frozen? ⟨w.heap.size, 4, none⟩ = false := (B2.out).free 4
      go_wp21
      refine bodyPost_ret (v := .tuple #[.agg #[.int .i64 0, .int .i64 0, .int .i64 0, .int .i64 0, .slice none 0 0], .bool false]) (oret_again (blk_set5o B2.out _ _ _ _ _) rfl rfl rfl) rfl ⟨Fr1.of0 (fr_set5o FW.out (Nat.le_refl _) _ _ _ _ _), ?_⟩
      rw [HP2.out]
      exact ⟨rfl, _, _, (H2.out).fr1 (fr1_set5o (Fr1.refl _ _) _ _ _ _ _) B2.out (by omega) (by decide)⟩
end Go.Proofs.Ytomdlfeaecknfaa
