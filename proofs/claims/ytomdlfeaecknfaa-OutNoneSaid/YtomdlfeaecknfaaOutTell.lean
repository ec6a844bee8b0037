/- The sender's Tell. Conditions stand in the statements. -/
import Derived.Test.YtomdlfeaecknfaaOutAgain
namespace Go.Proofs.Ytomdlfeaecknfaa
open Go.RowKit

/-- What state and again leave: their values under names. -/
def PickEnd (fs fd : Value) (p : Nat) (o : OutD) (r : Option Told) (w : World) (e : Ending) (w' : World) : Prop :=
  ∃ (ok : Bool) (a b : Int) (Ad : Option Addr) (n cd : Nat) (l : List Snt) (A : Option Addr) (c : Nat), e = .returned (.tuple #[.agg #[.int .i64 a, .int .i64 b, .int .i64 0, .int .i64 0, .slice Ad n cd], .bool ok]) ∧ Fr1 p w w' ∧ OutV w' p fs fd A c (withAll o l) ∧
    Hid ((ok = true ∧ ∃ t, r = some t ∧ l = t.all ∧ a = t.old ∧ b = t.new ∧ n = t.d.length ∧ RdB w' (.slice Ad n cd) t.d ∧ TyB w' (.slice Ad n cd) 5) ∨ (ok = false ∧ r = none ∧ l = o.all))
theorem pick_of_state {fs fd : Value} {p : Nat} {o : OutD} {r : Option Told} {w : World} {e : Ending} {w' : World} (h : StateEnd fs fd p o r w e w') : PickEnd fs fd p o r w e w' := by
  obtain ⟨hf, h⟩ := h
  cases r with
  | none =>
    obtain ⟨rfl, A, c, ho⟩ := h
    exact ⟨false, 0, 0, none, 0, 0, o.all, A, c, rfl, hf, ho, Lib.hid (.inr ⟨rfl, rfl, rfl⟩)⟩
  | some t =>
    obtain ⟨A, c, Ad, cd, rfl, ho, h1, h2⟩ := h
    exact ⟨true, _, _, Ad, _, cd, t.all, A, c, rfl, hf, ho, Lib.hid (.inl ⟨rfl, t, rfl, rfl, rfl, rfl, rfl, h1, h2⟩)⟩
theorem oret_tell {tmps : Array Value} {W : World} {g : Nat} {cs : Array Value} {u : Value} (hg : Blk W g cs 37) (hs : cs.size = 5) (h2 : tmps.getD 8 undef = .pointer (some ⟨g, 0, none⟩)) (h3 : tmps.getD 9 undef = u) :
    (results Try.f12 tmps).run Try.prog W = .ok (.tuple #[.agg cs, u]) W := by
  rw [results_cell_tmp rfl, h2, h3]
  have hl := run_loadVar_row (P := Try.prog) W g 37 37 cs (0, 0) _ hg Try.underlying37 rfl (by rw [hs]; kernel_rfl)
  simp [asAddr, Result.andThen, hl]
theorem base_kept {o : OutD} (hok : OutOk o) {now wait ack : Int} {t : Told} (h : pickP o now wait ack = some t) : (baseS t.all).n = (baseS o.all).n ∧ 0 < t.all.length := by
  rcases pickP_some h with h1 | ⟨-, h1⟩ | ⟨-, -, h1⟩
  · obtain ⟨-, e, -⟩ := stateP_some h1
    rw [e]
    exact ⟨by rw [show sentMore o now = o.all ++ [_] from rfl, baseS_app hok.pos], by simp [sentMore]⟩
  · obtain ⟨hd, -, e⟩ := againP_some h1
    rw [e]
    exact ⟨by rw [setLast_base (againDue_len hok.pos hd)], by simp only; rw [setLast_len hok.pos]; exact hok.pos⟩
  · obtain ⟨-, e⟩ := wordP_some h1
    rw [e]
    exact ⟨rfl, hok.pos⟩
/-- What Tell makes of a world. -/
def TellEnd (fs fd : Value) (p : Nat) (o : OutD) (now ack : Int) (r : Option Told) (w : World) (e : Ending) (w' : World) : Prop :=
  Fr1 p w w' ∧ match r with
  | none => e = .returned (.tuple #[.agg #[.int .i64 0, .int .i64 0, .int .i64 0, .int .i64 0, .slice none 0 0], .bool false]) ∧ ∃ A c, OutV w' p fs fd A c o
  | some t => ∃ A c Ad cd, e = .returned (.tuple #[.agg #[.int .i64 t.old, .int .i64 t.new, .int .i64 ack, .int .i64 (baseS o.all).n, .slice Ad t.d.length cd], .bool true]) ∧ OutV w' p fs fd A c (afterP o now ack t) ∧ RdB w' (.slice Ad t.d.length cd) t.d ∧ TyB w' (.slice Ad t.d.length cd) 5

set_option maxHeartbeats 2000000 in
set_option maxRecDepth 100000 in
theorem tell_not {p : Nat} {fs fd : Value} {A : Option Addr} {c : Nat} {o : OutD} {w : World} (h : OutV w p fs fd A c o) (hn : 0 < o.all.length) (now wait ack : Int) (ha : ¬ asked now ack) :
    Calls Try.prog 12 #[.pointer (some ⟨p, 0, none⟩), .int .i64 now, .int .i64 wait, .int .i64 ack] w fun e w' => TellEnd fs fd p o now ack none w e w' := by
  have HZ := Lib.hid (h.fr0 ((Fr0.refl w).alloc (.cells #[.int .i64 0, .int .i64 0, .int .i64 0, .int .i64 0, .slice none 0 0] 37)))
  have BZ := Lib.hid (Blk.new w #[.int .i64 0, .int .i64 0, .int .i64 0, .int .i64 0, .slice none 0 0] 37)
  have HT := Lib.hid (there_yes (HZ.out).blk hn)
  have hp := h.blk.lt
  have hcase : now < 0 ∨ (0 ≤ now ∧ 1099511627776 < now) ∨ (0 ≤ now ∧ now ≤ 1099511627776 ∧ ack < 0) ∨ (0 ≤ now ∧ now ≤ 1099511627776 ∧ 0 ≤ ack ∧ 1099511627776 < ack) := by unfold asked at ha; omega
  clear h ha
  rcases hcase with h1 | ⟨h1, h2⟩ | ⟨h1, h2, h3⟩ | ⟨h1, h2, h3, h4⟩
  all_goals
    go_enter Try.func12, Try.ntmps12
    go_upto_region 2 with (go_at_call 25; refine (HT.out).mono ?_; rintro e w' ⟨rfl, rfl⟩)
    go_wp21
    refine bodyPost_ret (v := .tuple #[.agg #[.int .i64 0, .int .i64 0, .int .i64 0, .int .i64 0, .slice none 0 0], .bool false]) (oret_tell (BZ.out) rfl rfl rfl) rfl ⟨Fr1.of0 ((Fr0.refl w).alloc _), ?_⟩
    exact ⟨rfl, _, _, HZ.out⟩

set_option maxHeartbeats 4000000 in
set_option maxRecDepth 100000 in
theorem tell_yes {p : Nat} {fs fd : Value} {A : Option Addr} {c : Nat} {o : OutD} {w : World} (hs : SameFn fs) (hd : DiffFn fd) (h : OutV w p fs fd A c o) (hok : OutOk o) (hsz : ∀ x ∈ o.all, x.s.size ≤ 100000) (hnz : o.now.size ≤ 100000) (now wait ack : Int) (ha : asked now ack) :
    Calls Try.prog 12 #[.pointer (some ⟨p, 0, none⟩), .int .i64 now, .int .i64 wait, .int .i64 ack] w fun e w' => TellEnd fs fd p o now ack (pickP o now (clampW wait) ack) w e w' := by
  have hpos := hok.pos
  have HZ := Lib.hid (h.fr0 ((Fr0.refl w).alloc (.cells #[.int .i64 0, .int .i64 0, .int .i64 0, .int .i64 0, .slice none 0 0] 37)))
  have BZ := Lib.hid (Blk.new w #[.int .i64 0, .int .i64 0, .int .i64 0, .int .i64 0, .slice none 0 0] 37)
  have HT := Lib.hid (there_yes (HZ.out).blk hpos)
  have hp := h.blk.lt
  obtain ⟨a1, a2, a3, a4⟩ := ha
  have hw := clampW_ge wait
  have W1 := Lib.hid (show clampW wait = max 50 (min wait 1000) from rfl)
  obtain ⟨W, hW⟩ : ∃ W, W = clampW wait := ⟨_, rfl⟩
  rw [← hW] at hw W1 ⊢
  have HS := Lib.hid ((state_any hs hd HZ.out hok hsz hnz now W ⟨a1, a2⟩).mono fun e w' h => pick_of_state h)
  have HAg := Lib.hid (fun (W0 : World) (A' : Option Addr) (c' : Nat) (h' : OutV W0 p fs fd A' c' o) => (again_any hs hd h' hok hsz now W ⟨a1, a2⟩).mono fun e w' h => pick_of_state h)
  have OK := Lib.hid hok
  have hIf := Lib.hid (show (if (50 : Int) < if (1000 : Int) < wait then 1000 else wait then (if (1000 : Int) < wait then 1000 else wait) else 50) = W by
    rw [W1.out]
    by_cases g1 : (1000 : Int) < wait
    · rw [if_pos g1, if_pos (by omega)]; omega
    · rw [if_neg g1]
      by_cases g2 : (50 : Int) < wait
      · rw [if_pos g2]; omega
      · rw [if_neg g2]; omega)
  obtain ⟨Mn, hMn'⟩ : ∃ M, M = (if (1000 : Int) < wait then 1000 else wait) := ⟨_, rfl⟩
  have hMn := Lib.hid hMn'.symm
  clear h hok hsz hnz hs hd hW hMn'
  go_enter Try.func12, Try.ntmps12
  go_upto_region 4 with (go_at_call 25; refine (HT.out).mono ?_; rintro e w' ⟨rfl, rfl⟩)
  rw [hIf.out, hMn.out]
  go_upto_if 43 with (go_at_call 26; refine (HS.out).mono ?_; rintro e w1 ⟨ok, a, b, Ad, n, cd, l, A', c', rfl, hf, ho, hr⟩; have F1 := Lib.hid hf; have O1 := Lib.hid ho; have X1 := Lib.hid (Blk.new w1 #[.int .i64 a, .int .i64 b, .int .i64 0, .int .i64 0, .slice Ad n cd] 37); clear hf ho)
  have q0 : w.heap.size < w1.heap.size := by have := (F1.out).size; have h9 : ((w.alloc (.cells #[.int .i64 0, .int .i64 0, .int .i64 0, .int .i64 0, .slice none 0 0] 37))).heap.size = w.heap.size + 1 := by simp
                                             omega
  have pq : p < w1.heap.size := by omega
  have FW := Lib.hid (show Fr1 p w (w1.alloc (.cells #[.int .i64 a, .int .i64 b, .int .i64 0, .int .i64 0, .slice Ad n cd] 37)) from (Fr1.trans (Fr1.of0 ((Fr0.refl w).alloc _)) F1.out).alloc _)
  have B4 := Lib.hid (((BZ.out).fr1 F1.out (by omega)).alloc (.cells #[.int .i64 a, .int .i64 b, .int .i64 0, .int .i64 0, .slice Ad n cd] 37))
  have O4 := Lib.hid ((O1.out).fr0 ((Fr0.refl w1).alloc (.cells #[.int .i64 a, .int .i64 b, .int .i64 0, .int .i64 0, .slice Ad n cd] 37)))
  have RT := Lib.hid (show (ok = true ∧ ∃ t, stateP o now W = some t ∧ l = t.all ∧ a = t.old ∧ b = t.new ∧ n = t.d.length ∧ RdB (w1.alloc (.cells #[.int .i64 a, .int .i64 b, .int .i64 0, .int .i64 0, .slice Ad n cd] 37)) (.slice Ad n cd) t.d ∧ TyB (w1.alloc (.cells #[.int .i64 a, .int .i64 b, .int .i64 0, .int .i64 0, .slice Ad n cd] 37)) (.slice Ad n cd) 5) ∨ (ok = false ∧ stateP o now W = none ∧ l = o.all) from by
    rcases hr.out with ⟨h1, t, h2, h3, h4, h5, h6, h7, h8⟩ | h
    · exact .inl ⟨h1, t, h2, h3, h4, h5, h6, h7.fr0 ((Fr0.refl w1).alloc _), h8.fr0 ((Fr0.refl w1).alloc _)⟩
    · exact .inr h)
  clear hr F1 O1 HZ BZ HT HS
  generalize (w1.alloc (.cells #[.int .i64 a, .int .i64 b, .int .i64 0, .int .i64 0, .slice Ad n cd] 37)) = w4 at *
  generalize w1.heap.size = q at *
  go_cut [11] (fun s11 wx => ∃ (ok : Bool) (a b : Int) (Ad : Option Addr) (n cd : Nat) (l : List Snt) (A' : Option Addr) (c' : Nat), s11 = .bool ok ∧ Fr1 p w wx ∧ OutV wx p fs fd A' c' (withAll o l) ∧ Blk wx w.heap.size #[.int .i64 0, .int .i64 0, .int .i64 0, .int .i64 0, .slice none 0 0] 37 ∧ Blk wx q #[.int .i64 a, .int .i64 b, .int .i64 0, .int .i64 0, .slice Ad n cd] 37 ∧ Hid ((ok = true ∧ ∃ t, pickP o now W ack = some t ∧ l = t.all ∧ a = t.old ∧ b = t.new ∧ n = t.d.length ∧ RdB wx (.slice Ad n cd) t.d ∧ TyB wx (.slice Ad n cd) 5) ∨ (ok = false ∧ stateP o now W = none ∧ againP o now W = none ∧ l = o.all)))
  case first =>
    cases ok with
    | true =>
      go_wp2_with fail
      go_meet
      rcases RT.out with ⟨_, t, h2, h3, h4, h5, h6, h7, h8⟩ | ⟨h, _⟩
      · exact ⟨true, a, b, Ad, n, cd, l, A', c', rfl, FW.out, O4.out, B4.out, X1.out, Lib.hid (.inl ⟨rfl, t, by unfold pickP; rw [h2], h3, h4, h5, h6, h7, h8⟩)⟩
      · cases h
    | false =>
      have RS := Lib.hid (show stateP o now W = none ∧ l = o.all by
        rcases RT.out with ⟨h, _⟩ | ⟨_, h⟩
        · cases h
        · exact h)
      obtain rfl : l = o.all := (RS.out).2
      have HA2 := Lib.hid (HAg.out w4 A' c' O4.out)
      go_wp2_with (go_at_call 27; refine (HA2.out).mono ?_; rintro e w5 ⟨ok2, a2, b2, Ad2, n2, cd2, l2, A2, c2, rfl, hf, ho, hr⟩; have F5 := Lib.hid hf; have O5 := Lib.hid ho; have X5 := Lib.hid ((X1.out).fr1 hf (by omega)); have B5 := Lib.hid ((B4.out).fr1 hf (by omega)); have R5 := hr; have x0 : w5.cell? ⟨q, 0, none⟩ = some (.int .i64 a) := (X5.out).cell 0 rfl; have fx0 : w5.frozen? ⟨q, 0, none⟩ = false := (X5.out).free 0; have x1 : w5.cell? ⟨q, 1, none⟩ = some (.int .i64 b) := (X5.out).cell 1 rfl; have fx1 : w5.frozen? ⟨q, 1, none⟩ = false := (X5.out).free 1; have x2 : w5.cell? ⟨q, 2, none⟩ = some (.int .i64 0) := (X5.out).cell 2 rfl; have fx2 : w5.frozen? ⟨q, 2, none⟩ = false := (X5.out).free 2; have x3 : w5.cell? ⟨q, 3, none⟩ = some (.int .i64 0) := (X5.out).cell 3 rfl; have fx3 : w5.frozen? ⟨q, 3, none⟩ = false := (X5.out).free 3; have x4 : w5.cell? ⟨q, 4, none⟩ = some (.slice Ad n cd) := (X5.out).cell 4 rfl; have fx4 : w5.frozen? ⟨q, 4, none⟩ = false := (X5.out).free 4; clear hf ho hr)
      go_meet
      have h5 := fr1_set5o (Fr1.refl q w5) (.int .i64 a2) (.int .i64 b2) (.int .i64 0) (.int .i64 0) (.slice Ad2 n2 cd2)
      refine ⟨ok2, a2, b2, Ad2, n2, cd2, l2, A2, c2, rfl, frS_set5 (Fr1.trans FW.out F5.out) (by omega) _ _ _ _ _, (O5.out).fr1 h5 X5.out (by omega) (by decide), (B5.out).fr1 h5 (by omega), blk_set5o X5.out _ _ _ _ _, Lib.hid ?_⟩
      rcases R5.out with ⟨h1, t, h2, h3, h4, h5', h6, h7, h8⟩ | ⟨h1, h2, h3⟩
      · exact .inl ⟨h1, t, by unfold pickP; rw [(RS.out).1, h2], h3, h4, h5', h6, Rd.frT h7 h8 h5 X5.out (by decide), h8.fr1 h5 X5.out (by decide)⟩
      · exact .inr ⟨h1, (RS.out).1, h2, h3⟩
  case rest =>
    clear FW O4 B4 X1 RT HAg
    obtain ⟨ok, a, b, Ad, n, cd, l, A', c', rfl, hf, ho, hb, hx, hr⟩ := hcut
    have FW := Lib.hid hf
    have O4 := Lib.hid ho
    have B4 := Lib.hid hb
    have X4 := Lib.hid hx
    have RT := hr
    clear hf ho hb hx hr
    generalize wc = w6 at *
    go_upto_if 52 with (fail)
    go_cut [10] (fun s10 wx => ∃ (Ad : Option Addr) (cd : Nat) (t : Told) (A' : Option Addr) (c' : Nat), s10 = .pointer (some ⟨q, 0, none⟩) ∧ Fr1 p w wx ∧ OutV wx p fs fd A' c' (withAll o t.all) ∧ Blk wx w.heap.size #[.int .i64 0, .int .i64 0, .int .i64 0, .int .i64 0, .slice none 0 0] 37 ∧ Blk wx q #[.int .i64 t.old, .int .i64 t.new, .int .i64 0, .int .i64 0, .slice Ad t.d.length cd] 37 ∧ Hid (pickP o now W ack = some t) ∧ RdB wx (.slice Ad t.d.length cd) t.d ∧ TyB wx (.slice Ad t.d.length cd) 5)
    case first =>
      cases ok with
      | true =>
        go_wp2_with fail
        go_meet
        rcases RT.out with ⟨_, t, h2, h3, h4, h5, h6, h7, h8⟩ | ⟨h, _⟩
        · subst h3 h4 h5 h6
          exact ⟨Ad, cd, t, A', c', rfl, FW.out, O4.out, B4.out, X4.out, Lib.hid h2, h7, h8⟩
        · cases h
      | false =>
        have RS := Lib.hid (show stateP o now W = none ∧ againP o now W = none ∧ l = o.all by
          rcases RT.out with ⟨h, _⟩ | ⟨_, h⟩
          · cases h
          · exact h)
        obtain rfl : l = o.all := (RS.out).2.2
        have hpos2 := hpos
        obtain ⟨g, off, rfl, hg, hcap⟩ := (O4.out).addr hpos2
        have cp4 : w6.cell? ⟨p, 4, none⟩ = some (.int .i64 o.ack) := (O4.out).blk.cell 4 rfl
        have cp5 : w6.cell? ⟨p, 5, none⟩ = some (.bool o.told) := (O4.out).blk.cell 5 rfl
        have cp6 : w6.cell? ⟨p, 6, none⟩ = some (.int .i64 o.at_) := (O4.out).blk.cell 6 rfl
        have oat := (OK.out).oat
        have hSi := Lib.hid (fun W => since_any o.told o.at_ now 300 W (by omega) (by omega))
        have HWD := Lib.hid (show wordDue o now ack = !(decide (ack ≤ o.ack) && since o.told o.at_ now 300) from rfl)
        obtain ⟨wd, hwd⟩ : ∃ wd, wd = wordDue o now ack := ⟨_, rfl⟩
        have HPW := Lib.hid (show pickP o now W ack = if wordDue o now ack = true then some ⟨o.all, (baseS o.all).n, (baseS o.all).n, []⟩ else none by unfold pickP; rw [(RS.out).1, (RS.out).2.1]; rfl)
        rw [← hwd] at HWD HPW
        obtain ⟨sb, hsb⟩ : ∃ sb, sb = since o.told o.at_ now 300 := ⟨_, rfl⟩
        rw [← hsb] at HWD hSi
        clear hwd hsb
        go_upto_region 8 with (fail)
        go_cut [70] (fun s wx => s = .bool (!wd) ∧ Fr0 w6 wx)
        case first =>
          by_cases k1 : ack ≤ o.ack
          · have b1 : decide (ack ≤ o.ack) = true := decide_eq_true k1
            have DU := Lib.hid (show wd = !sb by rw [HWD.out, decide_eq_true k1]; rfl)
            clear k1
            go_quiet ((go_at_call 28; exact quiet_left (hSi.out _)))
            go_wp2_with fail
            go_meet
            exact ⟨by rw [DU.out]; simp, (Fr0.refl _).drewN _⟩
          · have b1 : decide (ack ≤ o.ack) = false := decide_eq_false k1
            have DU := Lib.hid (show wd = true by rw [HWD.out, decide_eq_false k1]; rfl)
            clear k1
            go_quiet (fail)
            go_wp2_with fail
            go_meet
            exact ⟨by rw [DU.out]; rfl, (Fr0.refl _).drewN _⟩
        case rest =>
          obtain ⟨rfl, hf7⟩ := hcut
          clear hSi HWD cp4 cp5 cp6
          generalize wc = w7 at *
          have FW7 := Lib.hid (Fr1.trans FW.out (Fr1.of0 hf7))
          have O7 := Lib.hid ((O4.out).fr0 hf7)
          have B7 := Lib.hid ((B4.out).fr0 hf7)
          have X7 := Lib.hid ((X4.out).fr0 hf7)
          clear FW O4 B4 X4 hf7 RT
          cases wd with
          | true =>
            have HW := Lib.hid ((HPW.out).trans (by first | exact if_pos rfl | exact if_pos trivial))
            clear HPW
            have cq0 : (w7).cell? ⟨q, 0, none⟩ = some (.int .i64 a) := (X7.out).cell 0 rfl
            have cq1 : (w7).cell? ⟨q, 1, none⟩ = some (.int .i64 b) := (X7.out).cell 1 rfl
            have cq2 : (w7).cell? ⟨q, 2, none⟩ = some (.int .i64 0) := (X7.out).cell 2 rfl
            have cq3 : (w7).cell? ⟨q, 3, none⟩ = some (.int .i64 0) := (X7.out).cell 3 rfl
            have cq4 : (w7).cell? ⟨q, 4, none⟩ = some (.slice Ad n cd) := (X7.out).cell 4 rfl
            have fq0 : (w7).frozen? ⟨q, 0, none⟩ = false := (X7.out).free 0
            have fq1 : (w7).frozen? ⟨q, 1, none⟩ = false := (X7.out).free 1
            have fq2 : (w7).frozen? ⟨q, 2, none⟩ = false := (X7.out).free 2
            have fq3 : (w7).frozen? ⟨q, 3, none⟩ = false := (X7.out).free 3
            have fq4 : (w7).frozen? ⟨q, 4, none⟩ = false := (X7.out).free 4

            have dn : w7.cell? ⟨g, off, none⟩ = some (.int .i64 (baseS o.all).n) := by have := ((O7.out).cellAt hpos2).1; rw [Nat.zero_mul, Nat.add_zero, ← base_eq hpos2] at this; exact this
            have c3 : w7.cell? ⟨p, 3, none⟩ = some (.slice (some ⟨g, off, none⟩) o.all.length c') := (O7.out).blk.cell 3 rfl
            have il : (0 : Int) < (o.all.length : Int) := by omega
            have gq : g ≠ q := by rintro rfl; obtain ⟨cu, fz, hh⟩ := (O7.out).ty g rfl; have hx7 := X7.out; unfold Blk at hx7; rw [hh] at hx7; injection hx7 with hx7; injection hx7 with _ hx7; exact absurd hx7 (by decide)
            have gw : g < w7.heap.size := World.block_lt_of_cell? _ _ dn
            have NS := Lib.hid (fun (w' : World) (h : Fr1 q w7 w') => show w'.cell? ⟨p, 3, none⟩ = some (.slice (some ⟨g, off, none⟩) o.all.length c') ∧ w'.cell? ⟨g, off, none⟩ = some (.int .i64 (baseS o.all).n) from
              ⟨((O7.out).blk.fr1 h (by omega)).cell 3 rfl, (World.cell?_of_block (a := ⟨g, off, none⟩) (h.block g gw gq)).trans dn⟩)
            go_upto_region 10 with (fail)
            have Q1 := Lib.hid ((Fr1.refl q w7).drew)
            go_region_held_law (fun w' => w'.cell? ⟨p, 3, none⟩ = some (.slice (some ⟨g, off, none⟩) o.all.length c') ∧ w'.cell? ⟨g, off, none⟩ = some (.int .i64 (baseS o.all).n)) (first | with_reducible exact NS.out _ Q1.out | with_reducible exact NS.out _ (fr1_set5o (Fr1.refl q w7) _ _ _ _ _) | with_reducible exact NS.out _ (Fr1.drew (fr1_set5o (Fr1.refl q w7) _ _ _ _ _))) (fail)
            go_wp2_with fail
            go_meet
            have h5 := Fr1.drew (fr1_set5o (Fr1.refl q w7) (.int .i64 (baseS o.all).n) (.int .i64 (baseS o.all).n) (.int .i64 0) (.int .i64 0) (.slice none 0 0))
            exact ⟨none, 0, _, _, c', rfl, (frS_set5 FW7.out (by omega) _ _ _ _ _).drew, (O7.out).fr1 h5 X7.out (by omega) (by decide), (B7.out).fr1 h5 (by omega), (blk_set5o X7.out _ _ _ _ _).drew, Lib.hid HW.out, RdB.nil _, TyB.nil _ _⟩
          | false =>
            have HW := Lib.hid ((HPW.out).trans (by first | exact if_neg (by simp) | exact if_neg (by trivial)))
            clear HPW
            have cz0 : (w7).cell? ⟨w.heap.size, 0, none⟩ = some (.int .i64 0) := (B7.out).cell 0 rfl
            have cz1 : (w7).cell? ⟨w.heap.size, 1, none⟩ = some (.int .i64 0) := (B7.out).cell 1 rfl
            have cz2 : (w7).cell? ⟨w.heap.size, 2, none⟩ = some (.int .i64 0) := (B7.out).cell 2 rfl
            have cz3 : (w7).cell? ⟨w.heap.size, 3, none⟩ = some (.int .i64 0) := (B7.out).cell 3 rfl
            have cz4 : (w7).cell? ⟨w.heap.size, 4, none⟩ = some (.slice none 0 0) := (B7.out).cell 4 rfl
            have fz0 : (w7).frozen? ⟨w.heap.size, 0, none⟩ = false := (B7.out).free 0
            have fz1 : (w7).frozen? ⟨w.heap.size, 1, none⟩ = false := (B7.out).free 1
            have fz2 : (w7).frozen? ⟨w.heap.size, 2, none⟩ = false := (B7.out).free 2
            have fz3 : (w7).frozen? ⟨w.heap.size, 3, none⟩ = false := (B7.out).free 3
            have fz4 : (w7).frozen? ⟨w.heap.size, 4, none⟩ = false := (B7.out).free 4

            go_wp21
            refine bodyPost_ret (v := .tuple #[.agg #[.int .i64 0, .int .i64 0, .int .i64 0, .int .i64 0, .slice none 0 0], .bool false]) (oret_tell (blk_set5o B7.out _ _ _ _ _) rfl rfl rfl) rfl ⟨frS_set5 FW7.out (Nat.le_refl _) _ _ _ _ _, ?_⟩
            rw [HW.out]
            exact ⟨rfl, _, _, (O7.out).fr1 (fr1_set5o (Fr1.refl _ _) _ _ _ _ _) B7.out (by omega) (by decide)⟩
    case rest =>
      clear FW O4 B4 X4 RT
      obtain ⟨Ad, cd, t, A', c', rfl, hf, ho, hb, hx, hr, h1, h2⟩ := hcut
      obtain ⟨hbn, htl⟩ := base_kept OK.out hr.out
      have PK := hr
      have FW8 := Lib.hid hf
      have O8 := Lib.hid ho
      have B8 := Lib.hid hb
      have X8 := Lib.hid hx
      have R8 := Lib.hid (And.intro h1 h2)
      clear hf ho hb hx h1 h2 hr
      generalize wc = w8 at *
      obtain ⟨g, off, rfl, hg, hcap⟩ := (O8.out).addr htl
      have dn : w8.cell? ⟨g, off, none⟩ = some (.int .i64 (baseS o.all).n) := by have := ((O8.out).cellAt htl).1; rw [Nat.zero_mul, Nat.add_zero, ← base_eq htl] at this; rw [← hbn]; exact this
      have c3 : w8.cell? ⟨p, 3, none⟩ = some (.slice (some ⟨g, off, none⟩) t.all.length c') := (O8.out).blk.cell 3 rfl
      have il : (0 : Int) < (t.all.length : Int) := by have : 0 < t.all.length := htl; omega
      have gq : g ≠ q := by rintro rfl; obtain ⟨cu, fz, hh⟩ := (O8.out).ty g rfl; have hx7 := X8.out; unfold Blk at hx7; rw [hh] at hx7; injection hx7 with hx7; injection hx7 with _ hx7; exact absurd hx7 (by decide)
      have gw : g < w8.heap.size := World.block_lt_of_cell? _ _ dn
      have cq0 : (w8).cell? ⟨q, 0, none⟩ = some (.int .i64 t.old) := (X8.out).cell 0 rfl
      have cq1 : (w8).cell? ⟨q, 1, none⟩ = some (.int .i64 t.new) := (X8.out).cell 1 rfl
      have cq2 : (w8).cell? ⟨q, 2, none⟩ = some (.int .i64 0) := (X8.out).cell 2 rfl
      have cq3 : (w8).cell? ⟨q, 3, none⟩ = some (.int .i64 0) := (X8.out).cell 3 rfl
      have cq4 : (w8).cell? ⟨q, 4, none⟩ = some (.slice Ad t.d.length cd) := (X8.out).cell 4 rfl
      have fq0 : (w8).frozen? ⟨q, 0, none⟩ = false := (X8.out).free 0
      have fq1 : (w8).frozen? ⟨q, 1, none⟩ = false := (X8.out).free 1
      have fq2 : (w8).frozen? ⟨q, 2, none⟩ = false := (X8.out).free 2
      have fq3 : (w8).frozen? ⟨q, 3, none⟩ = false := (X8.out).free 3
      have fq4 : (w8).frozen? ⟨q, 4, none⟩ = false := (X8.out).free 4
      have NS := Lib.hid (fun (w' : World) (h : Fr1 q w8 w') => show w'.cell? ⟨p, 3, none⟩ = some (.slice (some ⟨g, off, none⟩) t.all.length c') ∧ w'.cell? ⟨g, off, none⟩ = some (.int .i64 (baseS o.all).n) from
        ⟨((O8.out).blk.fr1 h (by omega)).cell 3 rfl, (World.cell?_of_block (a := ⟨g, off, none⟩) (h.block g gw gq)).trans dn⟩)
      clear hbn
      go_upto_region 11 with (fail)
      have Q1 := Lib.hid ((Fr1.refl q w8).drew)
      go_region_held_law (fun w' => w'.cell? ⟨p, 3, none⟩ = some (.slice (some ⟨g, off, none⟩) t.all.length c') ∧ w'.cell? ⟨g, off, none⟩ = some (.int .i64 (baseS o.all).n)) (first | with_reducible exact NS.out _ Q1.out | with_reducible exact NS.out _ ((Fr1.refl q w8).set _ _) | with_reducible exact NS.out _ (((Fr1.refl q w8).set _ _).set _ _) | with_reducible exact NS.out _ (((Fr1.refl q w8).set _ _).drew) | with_reducible exact NS.out _ ((((Fr1.refl q w8).set _ _).set _ _).drew)) (fail)
      go_upto_region 12 with (fail)
      have h9 : Fr1 q w8 ((w8.setCell ⟨q, 2, none⟩ (.int .i64 ack)).setCell ⟨q, 3, none⟩ (.int .i64 (baseS o.all).n)).drew := (((Fr1.refl q w8).set 2 _).set 3 _).drew
      have X9 := Lib.hid (show Blk ((w8.setCell ⟨q, 2, none⟩ (.int .i64 ack)).setCell ⟨q, 3, none⟩ (.int .i64 (baseS o.all).n)).drew q #[.int .i64 t.old, .int .i64 t.new, .int .i64 ack, .int .i64 (baseS o.all).n, .slice Ad t.d.length cd] 37 from (((X8.out).set 2 (.int .i64 ack)).set 3 (.int .i64 (baseS o.all).n)).drew)
      have O9 := Lib.hid ((O8.out).fr1 h9 X8.out (by omega) (by decide))
      have B9 := Lib.hid ((B8.out).fr1 h9 (by omega))
      have R9 := Lib.hid (And.intro (Rd.frT (R8.out).1 (R8.out).2 h9 X8.out (by decide)) ((R8.out).2.fr1 h9 X8.out (by decide)))
      have FW9 := Lib.hid (show Fr1 p w ((w8.setCell ⟨q, 2, none⟩ (.int .i64 ack)).setCell ⟨q, 3, none⟩ (.int .i64 (baseS o.all).n)).drew from (Fr.setCell (p := ⟨q, 3, none⟩) (Fr.setCell (p := ⟨q, 2, none⟩) FW8.out (.inr (Nat.le_of_lt q0)) _) (.inr (Nat.le_of_lt q0)) _).drew)
      clear h9 X8 O8 B8 R8 FW8 NS Q1 c3 dn gw gq cq0 cq1 cq2 cq3 cq4 fq0 fq1 fq2 fq3 fq4
      generalize ((w8.setCell ⟨q, 2, none⟩ (.int .i64 ack)).setCell ⟨q, 3, none⟩ (.int .i64 (baseS o.all).n)).drew = w9 at *
      have cp0 : (w9).cell? ⟨p, 0, none⟩ = some fs := (O9.out.blk).cell 0 rfl
      have cp1 : (w9).cell? ⟨p, 1, none⟩ = some fd := (O9.out.blk).cell 1 rfl
      have cp2 : (w9).cell? ⟨p, 2, none⟩ = some (.string o.now) := (O9.out.blk).cell 2 rfl
      have cp3 : (w9).cell? ⟨p, 3, none⟩ = some (.slice (some ⟨g, off, none⟩) t.all.length c') := (O9.out.blk).cell 3 rfl
      have cp4 : (w9).cell? ⟨p, 4, none⟩ = some (.int .i64 o.ack) := (O9.out.blk).cell 4 rfl
      have cp5 : (w9).cell? ⟨p, 5, none⟩ = some (.bool o.told) := (O9.out.blk).cell 5 rfl
      have cp6 : (w9).cell? ⟨p, 6, none⟩ = some (.int .i64 o.at_) := (O9.out.blk).cell 6 rfl
      have fp0 : (w9).frozen? ⟨p, 0, none⟩ = false := (O9.out.blk).free 0
      have fp1 : (w9).frozen? ⟨p, 1, none⟩ = false := (O9.out.blk).free 1
      have fp2 : (w9).frozen? ⟨p, 2, none⟩ = false := (O9.out.blk).free 2
      have fp3 : (w9).frozen? ⟨p, 3, none⟩ = false := (O9.out.blk).free 3
      have fp4 : (w9).frozen? ⟨p, 4, none⟩ = false := (O9.out.blk).free 4
      have fp5 : (w9).frozen? ⟨p, 5, none⟩ = false := (O9.out.blk).free 5
      have fp6 : (w9).frozen? ⟨p, 6, none⟩ = false := (O9.out.blk).free 6
      have hMx := Lib.hid (show (if o.ack < ack then ack else o.ack) = max o.ack ack by split <;> omega)
      go_upto_region 13 with (fail)
      rw [hMx.out]
      have h10 : Fr1 p w9 (((w9.setCell ⟨p, 4, none⟩ (.int .i64 (max o.ack ack))).setCell ⟨p, 5, none⟩ (.bool true)).setCell ⟨p, 6, none⟩ (.int .i64 now)) := (((Fr1.refl p w9).set 4 _).set 5 _).set 6 _
      have O10 := Lib.hid ((O9.out).setEnd (max o.ack ack) now)
      have X10 := Lib.hid ((X9.out).fr1 h10 (by omega))
      have B10 := Lib.hid ((B9.out).fr1 h10 (by omega))
      have R10 := Lib.hid (And.intro (Rd.frT (R9.out).1 (R9.out).2 h10 (O9.out).blk (by decide)) ((R9.out).2.fr1 h10 (O9.out).blk (by decide)))
      have FW10 := Lib.hid (Fr1.trans FW9.out h10)
      clear h10 X9 O9 B9 R9 FW9 cp0 cp1 cp2 cp3 cp4 cp5 cp6 fp0 fp1 fp2 fp3 fp4 fp5 fp6 hMx
      generalize (((w9.setCell ⟨p, 4, none⟩ (.int .i64 (max o.ack ack))).setCell ⟨p, 5, none⟩ (.bool true)).setCell ⟨p, 6, none⟩ (.int .i64 now)) = w10 at *
      have cq0 : (w10).cell? ⟨q, 0, none⟩ = some (.int .i64 t.old) := (X10.out).cell 0 rfl
      have cq1 : (w10).cell? ⟨q, 1, none⟩ = some (.int .i64 t.new) := (X10.out).cell 1 rfl
      have cq2 : (w10).cell? ⟨q, 2, none⟩ = some (.int .i64 ack) := (X10.out).cell 2 rfl
      have cq3 : (w10).cell? ⟨q, 3, none⟩ = some (.int .i64 (baseS o.all).n) := (X10.out).cell 3 rfl
      have cq4 : (w10).cell? ⟨q, 4, none⟩ = some (.slice Ad t.d.length cd) := (X10.out).cell 4 rfl
      have cz0 : (w10).cell? ⟨w.heap.size, 0, none⟩ = some (.int .i64 0) := (B10.out).cell 0 rfl
      have cz1 : (w10).cell? ⟨w.heap.size, 1, none⟩ = some (.int .i64 0) := (B10.out).cell 1 rfl
      have cz2 : (w10).cell? ⟨w.heap.size, 2, none⟩ = some (.int .i64 0) := (B10.out).cell 2 rfl
      have cz3 : (w10).cell? ⟨w.heap.size, 3, none⟩ = some (.int .i64 0) := (B10.out).cell 3 rfl
      have cz4 : (w10).cell? ⟨w.heap.size, 4, none⟩ = some (.slice none 0 0) := (B10.out).cell 4 rfl
      have fz0 : (w10).frozen? ⟨w.heap.size, 0, none⟩ = false := (B10.out).free 0
      have fz1 : (w10).frozen? ⟨w.heap.size, 1, none⟩ = false := (B10.out).free 1
      have fz2 : (w10).frozen? ⟨w.heap.size, 2, none⟩ = false := (B10.out).free 2
      have fz3 : (w10).frozen? ⟨w.heap.size, 3, none⟩ = false := (B10.out).free 3
      have fz4 : (w10).frozen? ⟨w.heap.size, 4, none⟩ = false := (B10.out).free 4
      go_wp21
      have h5 := fr1_set5o (Fr1.refl w.heap.size w10) (.int .i64 t.old) (.int .i64 t.new) (.int .i64 ack) (.int .i64 (baseS o.all).n) (.slice Ad t.d.length cd)
      refine bodyPost_ret (v := .tuple #[.agg #[.int .i64 t.old, .int .i64 t.new, .int .i64 ack, .int .i64 (baseS o.all).n, .slice Ad t.d.length cd], .bool true]) (oret_tell (blk_set5o B10.out _ _ _ _ _) rfl rfl rfl) rfl ⟨frS_set5 FW10.out (Nat.le_refl _) _ _ _ _ _, ?_⟩
      rw [PK.out]
      exact ⟨some ⟨g, off, none⟩, c', Ad, cd, rfl, (O10.out).fr1 h5 B10.out (by omega) (by decide), Rd.frT (R10.out).1 (R10.out).2 h5 B10.out (by decide), (R10.out).2.fr1 h5 B10.out (by decide)⟩
/-- Tell, whatever is asked. -/
theorem tell_any {p : Nat} {fs fd : Value} {A : Option Addr} {c : Nat} {o : OutD} {w : World} (hs : SameFn fs) (hd : DiffFn fd) (h : OutV w p fs fd A c o) (hok : OutOk o) (hsz : ∀ x ∈ o.all, x.s.size ≤ 100000) (hnz : o.now.size ≤ 100000) (now wait ack : Int) :
    Calls Try.prog 12 #[.pointer (some ⟨p, 0, none⟩), .int .i64 now, .int .i64 wait, .int .i64 ack] w fun e w' => TellEnd fs fd p o now ack (tellP o now wait ack) w e w' := by
  unfold tellP
  split
  · rename_i ha; exact tell_yes hs hd h hok hsz hnz now wait ack ha
  · rename_i ha; exact tell_not h hok.pos now wait ack ha
end Go.Proofs.Ytomdlfeaecknfaa
