/- OutArrives: whatever came ahead, once now's state stays, and each number that is told is heard, a wait apart, the base comes to be it: the law returns true for every things, text and wait. No condition. -/
import Derived.Test.YtomdlfeaecknfaaOutEv
import Derived.Test.YtomdlfeaecknfaaOutLaw4
import Derived.Test.YtomdlfeaecknfaaWLits
namespace Go.Proofs.Ytomdlfeaecknfaa
open Go.RowKit

def goodA (n : Nat) (s : ByteArray) (wait : Int) : Bool := decide (n ≤ 100) && decide (s.size ≤ 60) && !bang s && decide (50 ≤ wait) && decide (wait ≤ 1000)
def goodX (now : Int) (s : ByteArray) : Bool := decide (0 ≤ now) && decide (now ≤ 1073741824) && decide (s.size ≤ 60) && !bang s
theorem goodX_fine {now : Int} {s : ByteArray} (h : goodX now s = true) : 0 ≤ now ∧ now ≤ 1073741824 ∧ fine s := by
  simp only [goodX, Bool.and_eq_true, decide_eq_true_eq, Bool.not_eq_true'] at h
  exact ⟨h.1.1.1, h.1.1.2, h.2, h.1.2⟩
theorem goodA_fine {n : Nat} {s : ByteArray} {wait : Int} (h : goodA n s wait = true) : n ≤ 100 ∧ fine s ∧ 50 ≤ wait ∧ wait ≤ 1000 := by
  simp only [goodA, Bool.and_eq_true, decide_eq_true_eq, Bool.not_eq_true'] at h
  exact ⟨h.1.1.1.1, ⟨h.1.1.2, h.1.1.1.2⟩, h.1.2, h.2⟩

theorem round_small {B : Nat} {o : OutD} (hok : OutOk o) (h : Small B o) (now wait : Int) : Small B (roundP o now wait) := by
  have h1 := small_told h hok now wait 0
  unfold toldP at h1
  unfold roundP
  cases e : tellP o now wait 0 with
  | none => exact h
  | some t =>
    rw [e] at h1
    simp only at h1 ⊢
    split
    · exact h1
    · exact small_heard h1 _
theorem rounds_small {B : Nat} {o : OutD} (hok : OutOk o) (h : Small B o) (now wait : Int) (j : Nat) : Small B (roundsP wait j o now) := by
  induction j with
  | zero => exact h
  | succ j ih => exact round_small (rounds_ok hok now wait j) ih _ _
theorem mul_small {j : Nat} {wait : Int} (hj : j ≤ 11) (h0 : 0 ≤ wait) (h1 : wait ≤ 1000) : 0 ≤ (j : Int) * wait ∧ (j : Int) * wait ≤ 11000 := by
  have a : (j : Int) * wait ≤ 11 * wait := Int.mul_le_mul_of_nonneg_right (by omega) h0
  exact ⟨Int.mul_nonneg (by omega) h0, by omega⟩

set_option maxHeartbeats 4000000 in
set_option maxRecDepth 100000 in
theorem outArrives_any {v : Value} {l : List OpD} {last : ByteArray} {wait : Int} {w : World} (hv : Rd w 5 v l.length (flat opC l)) (hl : ∀ x ∈ l, OpIn x) (hlast : last.size ≤ maxLen) :
    Calls Try.prog 4 #[v, .string last, .int .i64 wait] w fun e w' => e = .returned (.bool true) ∧ Fr0 w w' := by
  have l63 := hv.le63
  unfold maxLen at hlast
  obtain ⟨Av, cv, rfl, -, -, -⟩ := hv.form
  have KN := Lib.hid (known23_any w)
  have HV := Lib.hid hv
  have HL := Lib.hid hl
  obtain ⟨L, hL⟩ : ∃ L, L = l.length := ⟨_, rfl⟩
  rw [← hL] at l63 ⊢
  have HLn := Lib.hid hL
  have HGA := Lib.hid (show goodA L last wait = (decide (L ≤ 100) && decide (last.size ≤ 60) && !bang last && decide (50 ≤ wait) && decide (wait ≤ 1000)) from rfl)
  obtain ⟨ga, hga⟩ : ∃ b, b = goodA L last wait := ⟨_, rfl⟩
  rw [← hga] at HGA
  have HGA2 := Lib.hid hga
  clear hv hl hL hga
  go_enter Try.func4, Try.ntmps4
  go_upto_region 3 with (go_at_call 8; refine (KN.out).mono ?_; rintro e w1 ⟨rfl, hf⟩; have F1 := Lib.hid hf; clear hf)
  go_cut [43] (fun s wx => s = .bool (!ga) ∧ wx = w1)
  case first =>
    by_cases h1 : 100 < L
    · have q0 : decide (100 < (L : Int)) = true := by simp; omega
      have q1 : decide (100 < L) = true := by simpa using h1
      have DU := Lib.hid (show ga = false by rw [HGA.out, decide_eq_false (by omega)]; rfl)
      clear h1
      go_wp2_with fail
      go_meet
      exact ⟨by rw [DU.out]; rfl, rfl⟩
    have q0 : decide (100 < (L : Int)) = false := by simp; omega
    have q1 : decide (100 < L) = false := by simpa using h1
    have P1 := Lib.hid (show L ≤ 100 by omega)
    clear h1
    by_cases h2 : 60 < last.size
    · have q2 : decide (60 < (last.size : Int)) = true := by simp; omega
      have q3 : decide (60 < last.size) = true := by simpa using h2
      have DU := Lib.hid (show ga = false by rw [HGA.out, decide_eq_false (show ¬ last.size ≤ 60 by omega)]; simp)
      clear h2
      go_wp2_with fail
      go_meet
      exact ⟨by rw [DU.out]; rfl, rfl⟩
    have q2 : decide (60 < (last.size : Int)) = false := by simp; omega
    have q3 : decide (60 < last.size) = false := by simpa using h2
    have P2 := Lib.hid (show last.size ≤ 60 by omega)
    clear h2
    rcases bang_cases last with ⟨hb0, hb1⟩ | ⟨hb1, hb0⟩
    · have HB := Lib.hid hb0
      clear hb0
      by_cases h3 : wait < 50
      · have q4 : decide (wait < 50) = true := by simpa using h3
        have DU := Lib.hid (show ga = false by rw [HGA.out, decide_eq_false (show ¬ 50 ≤ wait by omega)]; simp)
        clear h3
        go_wp2_with fail
        go_meet
        exact ⟨by rw [DU.out]; rfl, rfl⟩
      · have q4 : decide (wait < 50) = false := by simpa using h3
        by_cases h4 : 1000 < wait
        · have q5 : decide (1000 < wait) = true := by simpa using h4
          have DU := Lib.hid (show ga = false by rw [HGA.out, decide_eq_false (show ¬ wait ≤ 1000 by omega)]; simp)
          clear h3 h4
          go_wp2_with fail
          go_meet
          exact ⟨by rw [DU.out]; rfl, rfl⟩
        · have q5 : decide (1000 < wait) = false := by simpa using h4
          have DU := Lib.hid (show ga = true by rw [HGA.out, decide_eq_true P1.out, decide_eq_true P2.out, HB.out, decide_eq_true (show 50 ≤ wait by omega), decide_eq_true (show wait ≤ 1000 by omega)]; rfl)
          clear h3 h4
          go_wp2_with fail
          go_meet
          exact ⟨by rw [DU.out]; rfl, rfl⟩
    · obtain ⟨z, hz0⟩ : ∃ z, z = last[0] := ⟨_, rfl⟩
      rw [← hz0] at hb0
      by_cases h33 : z.toNat = 33
      · have HB := Lib.hid (hb0.trans (decide_eq_true h33))
        have z1 : ((z.toNat : Int) == 33) = true := by rw [h33]; rfl
        have z2 : (z.toNat == 33) = true := by rw [h33]; rfl
        have z3 : (z == 33) = true := by rw [beq_iff_eq]; exact UInt8.toNat_inj.1 h33
        clear hb0 h33
        subst hz0
        have DU := Lib.hid (show ga = false by rw [HGA.out, HB.out]; simp)
        go_wp2_with fail
        go_meet
        exact ⟨by rw [DU.out]; rfl, rfl⟩
      · have HB := Lib.hid (hb0.trans (decide_eq_false h33))
        have z1 : ((z.toNat : Int) == 33) = false := by simp; omega
        have z2 : (z.toNat == 33) = false := by simpa using h33
        have z3 : (z == 33) = false := by rw [beq_eq_false_iff_ne]; intro e; exact h33 (by rw [e]; rfl)
        clear hb0 h33
        subst hz0
        by_cases h3 : wait < 50
        · have q4 : decide (wait < 50) = true := by simpa using h3
          have DU := Lib.hid (show ga = false by rw [HGA.out, decide_eq_false (show ¬ 50 ≤ wait by omega)]; simp)
          clear h3
          go_wp2_with fail
          go_meet
          exact ⟨by rw [DU.out]; rfl, rfl⟩
        · have q4 : decide (wait < 50) = false := by simpa using h3
          by_cases h4 : 1000 < wait
          · have q5 : decide (1000 < wait) = true := by simpa using h4
            have DU := Lib.hid (show ga = false by rw [HGA.out, decide_eq_false (show ¬ wait ≤ 1000 by omega)]; simp)
            clear h3 h4
            go_wp2_with fail
            go_meet
            exact ⟨by rw [DU.out]; rfl, rfl⟩
          · have q5 : decide (1000 < wait) = false := by simpa using h4
            have DU := Lib.hid (show ga = true by rw [HGA.out, decide_eq_true P1.out, decide_eq_true P2.out, HB.out, decide_eq_true (show 50 ≤ wait by omega), decide_eq_true (show wait ≤ 1000 by omega)]; rfl)
            clear h3 h4
            go_wp2_with fail
            go_meet
            exact ⟨by rw [DU.out]; rfl, rfl⟩
  case rest =>
    obtain ⟨rfl, rfl⟩ := hcut
    by_cases hga : ga = true
    · subst hga
      have GA := Lib.hid (goodA_fine (HGA2.out).symm)
      have gw1 : 50 ≤ wait := (GA.out).2.2.1
      have gw2 : wait ≤ 1000 := (GA.out).2.2.2
      have gL : L ≤ 100 := (GA.out).1
      clear HGA HGA2
      go_wp2_with (first
        | (go_at_call 10; refine (texts_any _).mono ?_; rintro e w2 ⟨rfl, hf⟩; have F2 := Lib.hid (Fr0.trans F1.out hf); clear hf)
        | (go_at_call 9; refine (onew_any sameFn diffFn _ _).mono ?_; rintro e w3 ⟨p, A0, c0, rfl, ho, hp, hf⟩; have O3 := Lib.hid ho; have F3 := Lib.hid (Fr0.trans F2.out hf); have PP := Lib.hid (Nat.le_trans (F2.out).size hp); clear ho hp hf))
      go_loopw [8] (fun v8 wr => ∃ (k : Nat) (o : OutD) (A : Option Addr) (c : Nat), k ≤ L ∧ v8 = .int .i64 k ∧ Fr0 w wr ∧ OutV wr p (.func (.func 23) #[] #[]) (.func (.func 24) #[] #[]) A c o ∧ Hid (Early k o)) (fun v8 _ => L - (intOf v8).toNat)
      case atStart => exact ⟨0, _, _, _, Nat.zero_le _, rfl, F3.out, O3.out, Lib.hid early_new⟩
      case round =>
        obtain ⟨k, o, A, c, hk, rfl, hf, ho, hs⟩ := hrel
        have F := Lib.hid hf
        have O := Lib.hid ho
        have S := hs
        clear hf ho hs F1 F2 F3 O3
        have OPOS := Lib.hid ((S.out).ok.pos)
        by_cases hlt : k < L
        · have hlo : k < l.length := by rw [← HLn.out]; exact hlt
          obtain ⟨g, off, c', hvv, d0, d1, d2, d3, d4⟩ := op_cells ((HV.out).fr0 F.out) hlo
          obtain rfl : Av = some ⟨g, off, none⟩ := by injection hvv
          have hin := (HL.out) _ (List.getElem_mem hlo)
          obtain ⟨x, hx⟩ : ∃ x, x = l[k] := ⟨_, rfl⟩
          rw [← hx] at d0 d1 d2 d3 d4 hin
          obtain ⟨⟨b1, b2⟩, hin⟩ := hin
          unfold maxLen at hin
          have i0 : (0 : Int) ≤ (k : Int) := by omega
          have i1 : (k : Int) < (L : Int) := by omega
          have FX := Lib.hid ((F.out).alloc (.cells #[.int .i64 x.kind, .int .i64 x.now, .int .i64 x.wait, .int .i64 x.n, .string x.s] 32))
          have OX := Lib.hid ((O.out).fr0 ((Fr0.refl wr).alloc (.cells #[.int .i64 x.kind, .int .i64 x.now, .int .i64 x.wait, .int .i64 x.n, .string x.s] 32)))
          have HGX := Lib.hid (show goodX x.now x.s = (decide (0 ≤ x.now) && decide (x.now ≤ 1073741824) && decide (x.s.size ≤ 60) && !bang x.s) from rfl)
          obtain ⟨gx, hgx⟩ : ∃ b, b = goodX x.now x.s := ⟨_, rfl⟩
          rw [← hgx] at HGX
          have HGX2 := Lib.hid hgx
          clear hvv hx hgx
          go_upto_region 12 with (fail)
          go_cut [83] (fun s wx => s = .bool (!gx) ∧ wx = (wr.alloc (.cells #[.int .i64 x.kind, .int .i64 x.now, .int .i64 x.wait, .int .i64 x.n, .string x.s] 32)))
          case first =>
            by_cases h1 : x.now < 0
            · have q0 : decide (x.now < 0) = true := by simpa using h1
              have DU := Lib.hid (show gx = false by rw [HGX.out, decide_eq_false (show ¬ 0 ≤ x.now by omega)]; rfl)
              clear h1
              go_wp2_with fail
              go_meet
              exact ⟨by rw [DU.out]; rfl, rfl⟩
            have q0 : decide (x.now < 0) = false := by simp; omega
            by_cases h2 : 1073741824 < x.now
            · have q1 : decide (1073741824 < x.now) = true := by simpa using h2
              have DU := Lib.hid (show gx = false by rw [HGX.out, decide_eq_false (show ¬ x.now ≤ 1073741824 by omega)]; simp)
              clear h1 h2
              go_wp2_with fail
              go_meet
              exact ⟨by rw [DU.out]; rfl, rfl⟩
            have q1 : decide (1073741824 < x.now) = false := by simp; omega
            have P1 := Lib.hid (show 0 ≤ x.now ∧ x.now ≤ 1073741824 by omega)
            clear h1 h2
            by_cases h3 : 60 < x.s.size
            · have q2 : decide (60 < (x.s.size : Int)) = true := by simp; omega
              have q3 : decide (60 < x.s.size) = true := by simpa using h3
              have DU := Lib.hid (show gx = false by rw [HGX.out, decide_eq_false (show ¬ x.s.size ≤ 60 by omega)]; simp)
              clear h3
              go_wp2_with fail
              go_meet
              exact ⟨by rw [DU.out]; rfl, rfl⟩
            have q2 : decide (60 < (x.s.size : Int)) = false := by simp; omega
            have q3 : decide (60 < x.s.size) = false := by simpa using h3
            have P2 := Lib.hid (show x.s.size ≤ 60 by omega)
            clear h3
            rcases bang_cases x.s with ⟨hb0, hb1⟩ | ⟨hb1, hb0⟩
            · have HB := Lib.hid hb0
              clear hb0
              have DU := Lib.hid (show gx = true by rw [HGX.out, decide_eq_true (P1.out).1, decide_eq_true (P1.out).2, decide_eq_true P2.out, HB.out]; rfl)
              go_wp2_with fail
              go_meet
              exact ⟨by rw [DU.out]; rfl, rfl⟩
            · obtain ⟨z, hz0⟩ : ∃ z, z = x.s[0] := ⟨_, rfl⟩
              rw [← hz0] at hb0
              by_cases h33 : z.toNat = 33
              · have HB := Lib.hid (hb0.trans (decide_eq_true h33))
                have z1 : ((z.toNat : Int) == 33) = true := by rw [h33]; rfl
                have z2 : (z.toNat == 33) = true := by rw [h33]; rfl
                have z3 : (z == 33) = true := by rw [beq_iff_eq]; exact UInt8.toNat_inj.1 h33
                clear hb0 h33
                subst hz0
                have DU := Lib.hid (show gx = false by rw [HGX.out, HB.out]; simp)
                go_wp2_with fail
                go_meet
                exact ⟨by rw [DU.out]; rfl, rfl⟩
              · have HB := Lib.hid (hb0.trans (decide_eq_false h33))
                have z1 : ((z.toNat : Int) == 33) = false := by simp; omega
                have z2 : (z.toNat == 33) = false := by simpa using h33
                have z3 : (z == 33) = false := by rw [beq_eq_false_iff_ne]; intro e; exact h33 (by rw [e]; rfl)
                clear hb0 h33
                subst hz0
                have DU := Lib.hid (show gx = true by rw [HGX.out, decide_eq_true (P1.out).1, decide_eq_true (P1.out).2, decide_eq_true P2.out, HB.out]; rfl)
                go_wp2_with fail
                go_meet
                exact ⟨by rw [DU.out]; rfl, rfl⟩
          case rest =>
            obtain ⟨rfl, rfl⟩ := hcut
            by_cases hgx : gx = true
            · subst hgx
              have GX := Lib.hid (goodX_fine (HGX2.out).symm)
              clear HGX HGX2 F O d0 d1 d2 d3 d4
              by_cases k0 : x.kind = 0
              · have e0 : (x.kind == 0) = true := by simpa using k0
                clear k0
                go_wp2_with (go_at_call 11; refine (oset_any OX.out OPOS.out x.s).mono ?_; rintro e w4 ⟨rfl, hf, ho⟩; have O4 := Lib.hid ho; have F4 := Lib.hid (Fr0.new FX.out hf PP.out); clear hf ho)
                go_roundw
                case measure => simp [intOf]; omega
                case rel => first | exact ⟨k + 1, _, _, _, by omega, by go_num, F4.out, O4.out, Lib.hid (early_up (early_set S.out (GX.out).2.2))⟩ | ((repeat apply Exists.intro); exact ⟨⟨k + 1, _, _, _, by omega, by go_num, F4.out, O4.out, Lib.hid (early_up (early_set S.out (GX.out).2.2))⟩, rfl⟩)
              · have e0 : (x.kind == 0) = false := by simpa using k0
                by_cases k1 : x.kind = 1
                · have e1 : (x.kind == 1) = true := by simpa using k1
                  clear k0 k1
                  go_wp2_with (go_at_call 12; refine (tell_g sameFn diffFn OX.out (S.out).ok ⟨Nat.le_trans (S.out).fineN.2 (by decide), fun y hy => Nat.le_trans ((S.out).fineA y hy).2 (by decide)⟩ x.now x.wait x.n).mono ?_; rintro e w4 ⟨ok, ta, tb, tm, tr, Ad, tn, cd, A4, c4, rfl, hf, ho, hr⟩; have O4 := Lib.hid ho; have F4 := Lib.hid (Fr0.new FX.out hf PP.out); clear hf ho hr)
                  go_roundw
                  case measure => simp [intOf]; omega
                  case rel => first | exact ⟨k + 1, _, _, _, by omega, by go_num, F4.out, O4.out, Lib.hid (early_told S.out (GX.out).2.1)⟩ | ((repeat apply Exists.intro); exact ⟨⟨k + 1, _, _, _, by omega, by go_num, F4.out, O4.out, Lib.hid (early_told S.out (GX.out).2.1)⟩, rfl⟩)
                · have e1 : (x.kind == 1) = false := by simpa using k1
                  by_cases k2 : x.kind = 2
                  · have e2 : (x.kind == 2) = true := by simpa using k2
                    clear k0 k1 k2
                    go_wp2_with (go_at_call 13; refine (oheard_any OX.out OPOS.out (by have := (S.out).ok.le; omega) x.n).mono ?_; rintro e w4 ⟨rfl, hf, A4, c4, ho⟩; have O4 := Lib.hid ho; have F4 := Lib.hid (Fr0.new FX.out hf PP.out); clear hf ho)
                    go_roundw
                    case measure => simp [intOf]; omega
                    case rel => first | exact ⟨k + 1, _, _, _, by omega, by go_num, F4.out, O4.out, Lib.hid (early_up (early_heard S.out _))⟩ | ((repeat apply Exists.intro); exact ⟨⟨k + 1, _, _, _, by omega, by go_num, F4.out, O4.out, Lib.hid (early_up (early_heard S.out _))⟩, rfl⟩)
                  · have e2 : (x.kind == 2) = false := by simpa using k2
                    clear k0 k1 k2
                    go_wp2_with fail
                    go_roundw
                    case measure => simp [intOf]; omega
                    case rel => first | exact ⟨k + 1, _, _, _, by omega, by go_num, FX.out, OX.out, Lib.hid (early_up S.out)⟩ | ((repeat apply Exists.intro); exact ⟨⟨k + 1, _, _, _, by omega, by go_num, FX.out, OX.out, Lib.hid (early_up S.out)⟩, rfl⟩)
            · obtain rfl : gx = false := by simpa using hgx
              clear hgx
              go_wp2_with fail
              go_ret
              exact ⟨rfl, FX.out⟩
        · obtain rfl : k = L := by omega
          have hSet := oset_any O.out OPOS.out last
          have hE := early_set S.out (GA.out).2.1
          obtain ⟨o1, ho1⟩ : ∃ o1, o1 = withNow o last := ⟨_, rfl⟩
          rw [← ho1] at hSet hE
          have HSet := Lib.hid hSet
          have E1 := Lib.hid hE
          have OW := Lib.hid (show o1.now = last by rw [ho1])
          have SMA := Lib.hid (show Small 60 o1 from ⟨hE.fineN.2, fun y hy => (hE.fineA y hy).2⟩)
          clear hSet hE ho1 O S OPOS HV HL
          go_wp2_with (go_at_call 11; refine (HSet.out).mono ?_; rintro e w4 ⟨rfl, hf, ho⟩; have O4 := Lib.hid ho; have F4 := Lib.hid (Fr0.new F.out hf PP.out); clear hf ho)
          go_loopw [10, 11] (fun v10 v11 wr => ∃ (j : Nat) (N : Int) (A : Option Addr) (c : Nat), j ≤ 12 ∧ v11 = .int .i64 j ∧ v10 = .int .i64 N ∧ 0 ≤ N ∧ N ≤ 1073755824 ∧ Hid (N = 1073743824 + j * wait) ∧ Fr0 w wr ∧ OutV wr p (.func (.func 23) #[] #[]) (.func (.func 24) #[] #[]) A c (roundsP wait j o1 1073743824)) (fun _ v11 _ => 12 - (intOf v11).toNat)
          case atStart => exact ⟨0, 1073743824, _, _, by omega, rfl, rfl, by omega, by omega, Lib.hid (by simp), F4.out, O4.out⟩
          case round =>
            obtain ⟨j, N, A, c, hj, rfl, rfl, n1, n2, hN, hf, ho⟩ := hrel
            have FJ := Lib.hid hf
            have OKJ := Lib.hid (rounds_ok (E1.out).ok 1073743824 wait j)
            have SMJ := Lib.hid (small_up (C := 100000) (rounds_small (E1.out).ok SMA.out 1073743824 wait j) (by decide))
            have HJ := Lib.hid (fun (h : N = 1073743824 + (j : Int) * wait) => show roundsP wait (j + 1) o1 1073743824 = roundP (roundsP wait j o1 1073743824) N wait by rw [h]; rfl)
            by_cases hlt : j < 12
            · obtain ⟨oj, hoj⟩ : ∃ oj, oj = roundsP wait j o1 1073743824 := ⟨_, rfl⟩
              rw [← hoj] at ho OKJ SMJ HJ
              have OJ := Lib.hid ho
              have hmul := mul_small (j := j) (by omega) (by omega : 0 ≤ wait) gw2
              have hN9 := hN.out
              have n3 : N + wait ≤ 1073755824 := by omega
              have HN2 := Lib.hid (show N + wait = 1073743824 + ((j + 1 : Nat) : Int) * wait by rw [hN9, Int.natCast_add, Int.add_mul]; omega)
              have HR := Lib.hid ((HJ.out) hN9)
              have POSJ := Lib.hid ((OKJ.out).pos)
              clear hf ho hoj hmul hN9 HJ F4 O4 F
              cases ht : tellP oj N wait 0 with
              | none =>
                have HT := Lib.hid ht
                have HR2 := Lib.hid (show roundsP wait (j + 1) o1 1073743824 = oj by rw [HR.out]; unfold roundP; rw [ht])
                clear ht
                go_wp2_with (go_at_call 12; refine (tell_k0 sameFn diffFn OJ.out OKJ.out (SMJ.out).2 (SMJ.out).1 HT.out).mono ?_; rintro e w5 ⟨A5, c5, rfl, hf, ho⟩; have O5 := Lib.hid (ho.fr0 ((Fr0.refl w5).alloc (.cells #[.int .i64 0, .int .i64 0, .int .i64 0, .int .i64 0, .slice none 0 0] 37))); have F5 := Lib.hid ((Fr0.new FJ.out hf PP.out).alloc (.cells #[.int .i64 0, .int .i64 0, .int .i64 0, .int .i64 0, .slice none 0 0] 37)); clear hf ho)
                go_roundw
                case measure => simp [intOf]; omega
                case rel => first | exact ⟨j + 1, N + wait, _, _, by omega, by go_num, rfl, by omega, n3, Lib.hid HN2.out, F5.out, by rw [HR2.out]; exact O5.out⟩ | ((repeat apply Exists.intro); exact ⟨⟨j + 1, N + wait, _, _, by omega, by go_num, rfl, by omega, n3, Lib.hid HN2.out, F5.out, by rw [HR2.out]; exact O5.out⟩, rfl⟩)
              | some t =>
                have HTT := Lib.hid (tell_t sameFn diffFn OJ.out OKJ.out SMJ.out ht)
                have HR2 := Lib.hid (show roundsP wait (j + 1) o1 1073743824 = if t.new = t.old then afterP oj N 0 t else heardP (afterP oj N 0 t) t.new by rw [HR.out]; unfold roundP; rw [ht])
                have OK2 := Lib.hid (show OutOk (afterP oj N 0 t) by have := told_ok OKJ.out N wait 0; unfold toldP at this; rw [ht] at this; exact this)
                have OP2 := Lib.hid ((OK2.out).pos)
                obtain ⟨ao, hao⟩ : ∃ x, x = afterP oj N 0 t := ⟨_, rfl⟩
                rw [← hao] at HTT HR2 OK2 OP2
                obtain ⟨told0, hto⟩ : ∃ x, x = t.old := ⟨_, rfl⟩
                obtain ⟨tn, htn⟩ : ∃ x, x = t.new := ⟨_, rfl⟩
                obtain ⟨dl, hdl⟩ : ∃ x, x = t.d.length := ⟨_, rfl⟩
                obtain ⟨bn, hbn⟩ : ∃ x, x = (baseS oj.all).n := ⟨_, rfl⟩
                rw [← hto, ← htn, ← hdl, ← hbn] at HTT
                rw [← hto, ← htn] at HR2
                clear ht hao hto htn hdl hbn
                by_cases hno : tn = told0
                · have b0 : (tn != told0) = false := by simpa using hno
                  have HR3 := Lib.hid ((HR2.out).trans (if_pos hno))
                  clear hno HR2
                  go_wp2_with (go_at_call 12; refine (HTT.out).mono ?_; rintro e w5 ⟨A5, c5, Ad, cd, rfl, hf, ho, -, -⟩; have O5 := Lib.hid (ho.fr0 ((Fr0.refl w5).alloc (.cells #[.int .i64 told0, .int .i64 tn, .int .i64 0, .int .i64 bn, .slice Ad dl cd] 37))); have F5 := Lib.hid ((Fr0.new FJ.out hf PP.out).alloc (.cells #[.int .i64 told0, .int .i64 tn, .int .i64 0, .int .i64 bn, .slice Ad dl cd] 37)); clear hf ho)
                  go_roundw
                  case measure => simp [intOf]; omega
                  case rel => first | exact ⟨j + 1, N + wait, _, _, by omega, by go_num, rfl, by omega, n3, Lib.hid HN2.out, F5.out, by rw [HR3.out]; exact O5.out⟩ | ((repeat apply Exists.intro); exact ⟨⟨j + 1, N + wait, _, _, by omega, by go_num, rfl, by omega, n3, Lib.hid HN2.out, F5.out, by rw [HR3.out]; exact O5.out⟩, rfl⟩)
                · have b0 : (tn != told0) = true := by simpa using hno
                  have HR3 := Lib.hid ((HR2.out).trans (if_neg hno))
                  clear hno HR2
                  go_wp2_with (first
                    | (go_at_call 12; refine (HTT.out).mono ?_; rintro e w5 ⟨A5, c5, Ad, cd, rfl, hf, ho, -, -⟩; have O5 := Lib.hid (ho.fr0 ((Fr0.refl w5).alloc (.cells #[.int .i64 told0, .int .i64 tn, .int .i64 0, .int .i64 bn, .slice Ad dl cd] 37))); have F5 := Lib.hid ((Fr0.new FJ.out hf PP.out).alloc (.cells #[.int .i64 told0, .int .i64 tn, .int .i64 0, .int .i64 bn, .slice Ad dl cd] 37)); clear hf ho)
                    | (go_at_call 13; refine (oheard_any O5.out OP2.out (by have := (OK2.out).le; omega) tn).mono ?_; rintro e w6 ⟨rfl, hf, A6, c6, ho⟩; have O6 := Lib.hid ho; have F6 := Lib.hid (Fr0.new F5.out hf PP.out); clear hf ho))
                  go_roundw
                  case measure => simp [intOf]; omega
                  case rel => first | exact ⟨j + 1, N + wait, _, _, by omega, by go_num, rfl, by omega, n3, Lib.hid HN2.out, F6.out, by rw [HR3.out]; exact O6.out⟩ | ((repeat apply Exists.intro); exact ⟨⟨j + 1, N + wait, _, _, by omega, by go_num, rfl, by omega, n3, Lib.hid HN2.out, F6.out, by rw [HR3.out]; exact O6.out⟩, rfl⟩)
            · obtain rfl : j = 12 := by omega
              have D12 := Lib.hid (arrives12 E1.out (by omega) ⟨gw1, gw2⟩)
              have OJ := Lib.hid ho
              have HBs := Lib.hid (show Calls Try.prog 15 #[.pointer (some ⟨p, 0, none⟩)] wr (fun e w' => e = .returned (.tuple #[.int .i64 (baseS (roundsP wait 12 o1 1073743824).all).n, .string last]) ∧ ∃ n, w' = wr.drewN n) by have := obase_any OJ.out (OKJ.out).pos; rw [(D12.out).2, OW.out] at this; exact this)
              have HSe := Lib.hid (fun (W : World) (h : Fr0 wr W) => show Calls Try.prog 16 #[.pointer (some ⟨p, 0, none⟩)] W (fun e w' => e = .returned (.int .i64 0) ∧ W = w') by have := osent_any ((OJ.out).fr0 h) (OKJ.out).pos; rw [(D12.out).1] at this; exact this)
              have HSt := Lib.hid (fun (W : World) (h : Fr0 wr W) => oset_any ((OJ.out).fr0 h) (OKJ.out).pos last)
              have q9 : (last.toList == last.toList) = true := by simp
              clear hf ho hN HJ
              go_wp2_with (first
                | (go_at_call 15; refine (HBs.out).mono ?_; rintro e w7 ⟨rfl, n7, hw⟩; have F7 := Lib.hid (show Fr0 wr w7 by rw [hw]; exact (Fr0.refl _).drewN n7); clear hw)
                | (go_at_call 16; refine (HSe.out _ F7.out).mono ?_; rintro e w8 ⟨rfl, rfl⟩)
                | (go_at_call 11; refine (HSt.out _ F7.out).mono ?_; rintro e w9 ⟨rfl, hf, ho⟩; have F9 := Lib.hid (Fr0.new (Fr0.trans FJ.out F7.out) hf PP.out); clear hf ho))
              go_ret
              exact ⟨rfl, F9.out⟩
    · obtain rfl : ga = false := by simpa using hga
      clear hga
      go_wp2_with fail
      go_ret
      exact ⟨rfl, F1.out⟩

namespace OutArrives
open Go.ChangeShapes Go.WideShapes Go.ChangeAt
open Go.ChangeMaps (open_string shut_string)

theorem own : ownKnob Try.prog.godebug = none := by kernel_rfl
theorem laidOut : laidOutB Try.prog = true := by kernel_rfl

set_option maxRecDepth 100000 in
theorem lifted (os : Os) (started : os.Started) (H : Type) (enc : TypeId × Value → H) :
    ReturnsInHanded {} Try.checked os 4 .any (Rows.outArrivesSpec.pre6 enc Try.prog Try.f4 Rows.outArrivesRow.domain false) (Rows.outArrivesSpec.post enc Try.prog Try.f4 false true false false) := by
  refine returnsInHanded_of_change (C := Try.checked) own started (by kernel_rfl) Try.func4
    (ChangeSpec.witness6 (enc := enc) (C := Try.checked) false ⟨#[], #[.slice none 0 0, .string ⟨#[]⟩, .int .i64 0], []⟩ 8 (by kernel_rfl) (by kernel_rfl) (by kernel_rfl) (by kernel_rfl)) ?_
  intro W base args ds gs before hval0 hW hcnd _
  have hval : ∀ (j : Nat) t v, Try.f4.params[j]? = some t → args[j]? = some v → Value.okWide Try.prog W .any base t v := hval0
  have hW' := hW
  obtain ⟨p, q, hA0, hV, rfl, hfz, hnd⟩ := hW
  have hA : DataW.TrodAll enc Try.prog W 0 (fun _ => true) true Try.f4.params.toList args.toList ds p := hA0
  rw [Try.params4] at hA hval
  obtain ⟨v0, vs0, d0', ds0, p0, q0, hargs, rfl, rfl, h0, r0⟩ := trodAll_cons hA
  obtain ⟨v1, vs1, d1', ds1, p1, q1, rfl, rfl, rfl, h1, r1⟩ := trodAll_cons r0
  obtain ⟨v2, vs2, d2', ds2, p2, q2, rfl, rfl, rfl, h2, r2⟩ := trodAll_cons r1
  obtain ⟨rfl, rfl, rfl⟩ := trodAll_nil r2
  obtain rfl : args = #[v0, v1, v2] := by cases args; simp_all
  obtain ⟨rfl, rfl⟩ := trodVars_none hV
  have k0 := h0
  have lt0 : ∀ x ∈ p0, x.block < W.heap.size := by obtain ⟨m, hm⟩ := k0; exact DataW.trod_lt m _ _ _ hm
  obtain ⟨A0, n0, c0, rfl⟩ := okWide_slice Try.underlying22 (hval 0 22 v0 rfl rfl)
  obtain ⟨fuel0, hf0⟩ := h0
  obtain ⟨l0, hy0, hz0⟩ := arg_of opC OpIn (by decide) opC_len Try.underlying22 (by kernel_rfl) (fun n cs x h => read_op Try.underlying32 (by kernel_rfl) (by kernel_rfl) (fun j hj => by rcases (by omega : j = 0 ∨ j = 1 ∨ j = 2 ∨ j = 3) with rfl | rfl | rfl | rfl <;> exact ⟨_, rfl, Try.underlying3⟩) ⟨_, rfl, rfl⟩ Try.underlying9 h) hf0
  obtain ⟨s1, rfl, rfl, rfl, hs1⟩ := open_string Try.underlying9 (hval 1 9 v1 rfl rfl) h1
  obtain ⟨n2, rfl, rfl, rfl, hn2⟩ := open_int Try.underlying3 (hval 2 3 v2 rfl rfl) h2
  have hm2 := lit_i64 hn2
  clear hA0 hval0
  refine (outArrives_any hy0 hz0 hs1).mono fun e W' ⟨he, hfr⟩ => ?_
  have bel : Below W.heap.size W W' := Fr0.below hfr
  subst he
  exact ⟨_, rfl, _, _, _, [], _, [], hW', trodAll_mk1 (shut_bool Try.underlying4 _), (trodAll_cons_mk (Below.trod laidOut (by kernel_rfl) (of_decide_eq_true (by kernel_rfl)) k0 bel lt0) (trodAll_cons_mk (shut_string Try.underlying9 hs1) (trodAll_cons_mk (shut_int Try.underlying3 hn2) trodAll_mk0))), rfl, bel.frame _, fun h => by cases h⟩

theorem over : Rows.outArrivesRow.holds Try.pinned (OpenSpec.ofChange Rows.outArrivesSpec) :=
  OpenClaim.holds_of_wide 4 Try.f4 rfl rfl rfl rfl rfl rfl rfl ⟨rfl, rfl, rfl, rfl, rfl⟩ rfl rfl rfl rfl rfl (by kernel_rfl) Try.func4 (by kernel_rfl)
    (of_decide_eq_true (by kernel_rfl)) (by unfold Func.isWrapper; first | (rw [if_pos (by decide +kernel)]; kernel_rfl) | (rw [if_neg (by decide +kernel)]; exact ⟨rfl, rfl⟩))
    (fun os started H enc _ => lifted os started H enc)

theorem proved : Rows.OutArrivesSaid := over
#print axioms proved
end OutArrives
end Go.Proofs.Ytomdlfeaecknfaa
