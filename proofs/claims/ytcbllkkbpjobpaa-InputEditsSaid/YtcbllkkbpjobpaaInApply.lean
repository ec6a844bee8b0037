/- A stream behind deeds that came. Conditions stand in the statements. -/
import Derived.Test.YtcbllkkbpjobpaaInLaw
import Derived.Test.YtcbllkkbpjobpaaInAdd
import Derived.Test.YtcbllkkbpjobpaaInRef2
import Derived.Test.YtcbllkkbpjobpaaWireLeft
import Derived.Test.YtcbllkkbpjobpaaWireOwn
import Derived.Deep.CutBlock
set_option linter.unusedVariables false
set_option linter.unusedSimpArgs false
namespace Go.Proofs.Ytcbllkkbpjobpaa
open Go.RowKit

theorem window_any (n : Nat) (w : World) : Calls Try.prog 34 #[.int .u64 (n : Int)] w fun e w' => e = .returned (.int .i64 (winN n)) ∧ w' = w := by
  by_cases h : n ≤ 1000
  · have b1 : decide (1000 < (n : Int)) = false := by simp; omega
    have b2 : decide (1000 < n) = false := by simp; omega
    have w1 : IntKind.i64.wrap (n : Int) = n := by rw [IntKind.wrap_i64]; omega
    have HV := Lib.hid (show winN n = n by unfold winN; rw [if_pos h])
    clear h
    go_enter Try.func34, Try.ntmps34
    go_wp2_with fail
    go_ret
    exact ⟨by rw [HV.out]; rfl, rfl⟩
  · have b1 : decide (1000 < (n : Int)) = true := by simp; omega
    have b2 : decide (1000 < n) = true := by simp; omega
    have HV := Lib.hid (show winN n = 0 by unfold winN; rw [if_neg h])
    clear h
    go_enter Try.func34, Try.ntmps34
    go_wp2_with fail
    go_ret
    exact ⟨by rw [HV.out]; rfl, rfl⟩
def lenAt (w : World) (p : Nat) : Nat := match w.cell? ⟨p, 0, none⟩ with | some (.slice _ n _) => n | _ => 0
theorem RdrV.lenAt {w : World} {p : Nat} {A : Option Addr} {c : Nat} {d : List UInt8} {e : Int} (h : RdrV w p A c d e) : lenAt w p = d.length := by
  unfold Go.Proofs.Ytcbllkkbpjobpaa.lenAt
  rw [h.blk.cell 0 rfl]
  rfl
theorem RdrV.frO {T : World → Value → List UInt8 → Prop} {base : Nat} {w w' : World} {v : Value} {l : List Dd} {p : Nat} {A : Option Addr} {c : Nat} {d : List UInt8} {e : Int} (h : RdrV w p A c d e) (D : DsG T base w v l) (hf : Fr (ownB v) w w') : RdrV w' p A c d e := by
  have hne : ∀ g, Value.blk (.slice A d.length c) = some g → ¬ ownB v g := fun g hg hs => by
    obtain ⟨tv', h1, h2, h3⟩ := D
    rcases h2.2 with ⟨rfl, _⟩ | ⟨g', cap, cur, rfl, _, hb, _⟩
    · cases hs
    · cases hs
      exact h.ty.ne (vs := cur) (t' := 28) hb (by decide) hg
  exact ⟨h.blk.fr hf (fun hs => D.ne h.blk (by decide) _ hs rfl), Rd.fr h.rd hf (fun _ => hne), h.ty.fr hf hne⟩
theorem winN_bnd (n : Nat) : 0 ≤ winN n ∧ winN n ≤ 1000 := by unfold winN; split <;> omega
/-- What a round has read: the deed in its block, the reader behind it. -/
def ReadIn (w wr : World) (p : Nat) (x : Dd × List UInt8 × Int) (wx : World) : Prop :=
  ∃ (Bx : Option Addr) (ex : Nat) (A5 : Option Addr) (c5 : Nat), Blk wx wr.heap.size (ddA x.1 Bx ex) 28 ∧ RdrV wx p A5 c5 x.2.1 x.2.2 ∧ SlO w.heap.size wx (.slice Bx x.1.t.length ex) x.1.t ∧ Fr1 p wr wx
/-- The loop's state. -/
structure ApIn (w wr : World) (p g6 : Nat) (cn : Int) (D : List UInt8) (B : Option Addr) (c' k : Nat) (acc : List Dd) (A5 : Option Addr) (c5 : Nat) (d : List UInt8) : Prop where
  f : Fr0 w wr
  y : Blk wr (w.heap.size + 1) #[.int .i64 0, .slice none 0 0] 24
  z : Blk wr g6 #[.int .i64 cn, .slice B k c'] 24
  g : w.heap.size + 2 ≤ g6
  r : RdrV wr p A5 c5 d 0
  lo : w.heap.size ≤ p
  dd : DsG (SlO w.heap.size) (w.heap.size + 2) wr (.slice B k c') acc
  kk : acc.length = k
  rd : Reading D d acc
section
variable {w wr : World} {p g6 : Nat} {cn : Int} {D : List UInt8} {B : Option Addr} {c' k : Nat} {acc : List Dd} {A5 : Option Addr} {c5 : Nat} {d : List UInt8}
theorem ApIn.kd {wx : World} (h : ApIn w wr p g6 cn D B c' k acc A5 c5 d) (hf : Fr1 p wr wx) : Fr0 w wx ∧ Blk wx (w.heap.size + 1) #[.int .i64 0, .slice none 0 0] 24 ∧ Blk wx g6 #[.int .i64 cn, .slice B k c'] 24 ∧ DsG (SlO w.heap.size) (w.heap.size + 2) wx (.slice B k c') acc := by
  exact ⟨Fr0.new h.f hf h.lo, h.y.fr1 hf (h.y.ne h.r.blk (by decide)), h.z.fr1 hf (h.z.ne h.r.blk (by decide)), h.dd.frS hf h.r.blk (by decide) (by decide)⟩
end
set_option maxHeartbeats 8000000 in
set_option maxRecDepth 100000 in
theorem apply_any {b : Int} {A : Option Addr} {c : Nat} {l : List Dd} {vb : Value} {D : List UInt8} {w : World} (h : Ds w (.slice A l.length c) l) (hb : RdB w vb D) (hn : D.length ≤ 100000) :
    Calls Try.prog 19 #[.agg #[.int .i64 b, .slice A l.length c], vb] w (AddOut w (applyP b l D)) := by
  obtain ⟨wa, hwa⟩ : ∃ W, W = (w.alloc (.cells #[.int .i64 b, .slice A l.length c] 24)).alloc (.cells #[.int .i64 0, .slice none 0 0] 24) := ⟨_, rfl⟩
  have FX := Lib.hid (show Fr0 w wa by rw [hwa]; exact ((Fr0.refl w).alloc _).alloc _)
  have BX := Lib.hid (show Blk wa w.heap.size #[.int .i64 b, .slice A l.length c] 24 by rw [hwa]; exact (Blk.new w _ 24).alloc _)
  have BY := Lib.hid (show Blk wa (w.heap.size + 1) #[.int .i64 0, .slice none 0 0] 24 by rw [hwa]; have := Blk.new (w.alloc (.cells #[.int .i64 b, .slice A l.length c] 24)) #[.int .i64 0, .slice none 0 0] 24; simpa using this)
  have HM := Lib.hid (mayS_any (b := b) (h.fr0 FX.out))
  have HC := Lib.hid (fun W (hf : Fr0 w W) => count_any (b := b) (h.fr0 hf))
  obtain ⟨Ab, cb, rfl, -⟩ := hb.form
  have HO := Lib.hid (fun W (hf : Fr0 w W) => openR_any (hb.fr0 hf) (by omega))
  have HP := Lib.hid (show applyP b l D = (if mayS b l = true then (match dRead D with | none => (0, [], 4) | some l' => if mayS (cntS b l) l' = true then (cntS b l, l', 0) else (0, [], 5)) else (0, [], 2) : Int × List Dd × Int) from rfl)
  obtain ⟨n, hnl⟩ : ∃ n, n = l.length := ⟨_, rfl⟩
  obtain ⟨s, hs⟩ : ∃ s, s = mayS b l := ⟨_, rfl⟩
  obtain ⟨cn, hcn⟩ : ∃ s, s = cntS b l := ⟨_, rfl⟩
  obtain ⟨P, hP⟩ : ∃ s, s = applyP b l D := ⟨_, rfl⟩
  obtain ⟨nb, hnb⟩ : ∃ s, s = D.length := ⟨_, rfl⟩
  rw [← hnl] at BX HM HC hwa ⊢
  rw [← hs] at HM HP
  rw [← hcn] at HC HP
  rw [← hP] at HP ⊢
  rw [← hnb] at HO hn ⊢
  have HNB := Lib.hid hnb
  have WS := Lib.hid (show wa.heap.size = w.heap.size + 2 by rw [hwa]; simp)
  clear hnl hs hcn hP h hb hnb
  unfold AddOut
  cases s
  · have HV := Lib.hid (show P = (0, [], 2) by rw [HP.out, if_neg (by simp)])
    clear HP
    subst hwa
    go_enter Try.func19, Try.ntmps19
    go_upto_region 2 with (first
      | (go_at_call 22; refine (HM.out).mono ?_; rintro e w1 ⟨rfl, hf⟩; have F1 := Lib.hid (Fr0.trans FX.out hf); have Y1 := Lib.hid ((BY.out).fr0 hf); clear hf))
    have f0 := (Y1.out).free 0
    have f1 := (Y1.out).free 1
    have g0 := (Y1.out).cell 0 rfl
    have g1 := (Y1.out).cell 1 rfl
    go_wp21
    rw [HV.out]
    refine bodyPost_ret (v := .tuple #[.agg #[.int .i64 0, .slice none 0 0], .int .i64 2]) (sret2 rfl (blk_set2 Y1.out _ _) rfl rfl) rfl ⟨none, 0, rfl, DsG.nil _ _ _, fr_set2 F1.out (by omega) _ _⟩
  have HPN := Lib.hid (fun (h : dRead D = none) => show P = (0, [], 4) from by rw [HP.out, if_pos rfl, h])
  have HPS := Lib.hid (fun (l' : List Dd) (h : dRead D = some l') => show P = (if mayS cn l' = true then (cn, l', 0) else (0, [], 5) : Int × List Dd × Int) from by rw [HP.out, if_pos rfl, h])
  clear HP
  have RS := Lib.hid (Reading.start D)
  subst hwa
  go_enter Try.func19, Try.ntmps19
  go_upto_region 5 with (first
    | (go_at_call 22; refine (HM.out).mono ?_; rintro e w1 ⟨rfl, hf⟩; have F1 := Lib.hid (Fr0.trans FX.out hf); have X1 := Lib.hid ((BX.out).fr0 hf); have c0 := (X1.out).cell 0 rfl; have c1 := (X1.out).cell 1 rfl; have Y1 := Lib.hid ((BY.out).fr0 hf); have W1 := Lib.hid hf.size; clear hf)
    | (go_at_call 23; refine (HC.out _ F1.out).mono ?_; rintro e w2 ⟨rfl, hf⟩; have F2 := Lib.hid (Fr0.alloc (Fr0.trans F1.out hf) (.cells #[.int .i64 cn, .slice none 0 0] 24)); have Y2 := Lib.hid (((Y1.out).fr0 hf).alloc (.cells #[.int .i64 cn, .slice none 0 0] 24)); have Z2 := Lib.hid (Blk.new w2 #[.int .i64 cn, .slice none 0 0] 24); have W2 := Lib.hid (Nat.le_trans W1.out hf.size); clear hf)
    | (go_at_call 29; refine (HO.out _ F2.out).mono ?_; rintro e w3 ⟨p, A3, c3, rfl, hr, hf, hp, hp2⟩; have F3 := Lib.hid (Fr0.trans F2.out hf); have Y3 := Lib.hid ((Y2.out).fr0 hf); have Z3 := Lib.hid ((Z2.out).fr0 hf); have R3 := Lib.hid hr; have P3 := Lib.hid (Nat.le_trans (F2.out).size hp); clear hr hf hp hp2))
  obtain ⟨g6, hg6⟩ : ∃ g, g = w2.heap.size := ⟨_, rfl⟩
  have G6 := Lib.hid (show w.heap.size + 2 ≤ g6 by have h1 := W2.out; have h2 := WS.out; omega)
  rw [← hg6] at Z3
  rw [← hg6]
  clear hg6 X1 Y1 Y2 Z2 F1 F2 W1 W2 WS BX BY c0 c1 HM HC HO
  go_loopw [] (fun wr => ∃ (k : Nat) (B : Option Addr) (c' : Nat) (acc : List Dd) (A5 : Option Addr) (c5 : Nat) (d : List UInt8), Hid (ApIn w wr p g6 cn D B c' k acc A5 c5 d)) (fun wr => lenAt wr p)
  case atStart => exact ⟨0, none, 0, [], A3, c3, D, Lib.hid ⟨F3.out, Y3.out, Z3.out, G6.out, R3.out, P3.out, DsG.nil _ _ _, rfl, RS.out⟩⟩
  case round =>
    obtain ⟨k, B, c', acc, A5, c5, d, hI⟩ := hrel
    have I := hI
    clear hI RS F3 Y3 Z3 R3
    have HL0 := Lib.hid ((rleft_any (I.out).r).mono (fun e w' h => show e = _ ∧ wr = w' from ⟨h.1, h.2.symm⟩))
    have HE0 := Lib.hid ((rerr_any (I.out).r).mono (fun e w' h => show e = _ ∧ wr = w' from ⟨h.1, h.2.symm⟩))
    have PL := Lib.hid ((I.out).r.blk.lt)
    have HLA := Lib.hid ((I.out).r.lenAt)
    obtain ⟨nd, hnd⟩ : ∃ n, n = d.length := ⟨_, rfl⟩
    rw [← hnd] at HL0 HLA
    have ND := Lib.hid hnd
    clear hnd
    by_cases h0 : nd = 0
    · subst h0
      have HD := Lib.hid (show dRead D = some acc from by
        have h := (I.out).rd
        rw [List.eq_nil_of_length_eq_zero (ND.out).symm] at h
        exact h.done)
      have HMO := Lib.hid (mayS_any (b := cn) (l := acc) (A := B) (c := c') (w := wr) (by rw [(I.out).kk]; exact (I.out).dd.ds (fun v t h => h.rd)))
      rw [(I.out).kk] at HMO
      have z0 := (I.out).z.cell 0 rfl
      have z1 := (I.out).z.cell 1 rfl
      obtain ⟨m, hm⟩ : ∃ m, m = mayS cn acc := ⟨_, rfl⟩
      rw [← hm] at HMO
      have HV := Lib.hid (show P = (if m = true then (cn, acc, 0) else (0, [], 5) : Int × List Dd × Int) by rw [HPS.out acc HD.out, hm])
      clear hm
      cases m
      · have HV2 := Lib.hid (show P = (0, [], 5) by rw [HV.out]; rfl)
        clear HV
        go_upto_region 21 with (first
          | (go_at_call 30; refine (HL0.out).mono ?_; rintro e w' ⟨rfl, rfl⟩)
          | (go_at_call 31; refine (HE0.out).mono ?_; rintro e w' ⟨rfl, rfl⟩)
          | (go_at_call 22; refine (HMO.out).mono ?_; rintro e w5 ⟨rfl, hf⟩; have F5 := Lib.hid (Fr0.trans (I.out).f hf); have Y5 := Lib.hid ((I.out).y.fr0 hf); clear hf))
        have f0 := (Y5.out).free 0
        have f1 := (Y5.out).free 1
        have g0 := (Y5.out).cell 0 rfl
        have g1 := (Y5.out).cell 1 rfl
        go_wp21
        rw [HV2.out]
        refine bodyPost_ret (v := .tuple #[.agg #[.int .i64 0, .slice none 0 0], .int .i64 5]) (sret2 rfl (blk_set2 Y5.out _ _) rfl rfl) rfl ⟨none, 0, rfl, DsG.nil _ _ _, fr_set2 F5.out (by omega) _ _⟩
      · have HV2 := Lib.hid (show P = (cn, acc, 0) by rw [HV.out]; rfl)
        have KK := Lib.hid (I.out).kk
        clear HV
        go_upto_region 22 with (first
          | (go_at_call 30; refine (HL0.out).mono ?_; rintro e w' ⟨rfl, rfl⟩)
          | (go_at_call 31; refine (HE0.out).mono ?_; rintro e w' ⟨rfl, rfl⟩)
          | (go_at_call 22; refine (HMO.out).mono ?_; rintro e w5 ⟨rfl, hf⟩; have F5 := Lib.hid (Fr0.trans (I.out).f hf); have Y5 := Lib.hid ((I.out).y.fr0 hf); have Z5 := Lib.hid ((I.out).z.fr0 hf); have D5 := Lib.hid ((I.out).dd.fr0 hf (fun v t h => h.fr0 hf)); clear hf))
        have f0 := (Y5.out).free 0
        have f1 := (Y5.out).free 1
        have g0 := (Y5.out).cell 0 rfl
        have g1 := (Y5.out).cell 1 rfl
        have q0 := (Z5.out).cell 0 rfl
        have q1 := (Z5.out).cell 1 rfl
        go_wp21
        rw [HV2.out]
        refine bodyPost_ret (v := .tuple #[.agg #[.int .i64 cn, .slice B k c'], .int .i64 0]) (sret2 rfl (blk_set2 Y5.out _ _) rfl rfl) rfl ⟨B, c', by rw [KK.out], by rw [KK.out]; exact ((D5.out).mono (T2 := SlO w.heap.size) (by omega) (fun v t h => h)).frS (fr1_set2 _ _ _ _) Y5.out (by decide) (by decide), fr_set2 F5.out (by omega) _ _⟩
    · have DNE := Lib.hid (show d ≠ [] from fun e => h0 (by rw [ND.out, e]; rfl))
      have b0 : decide (0 < (nd : Int)) = true := by simp; omega
      have b00 : decide (0 < nd) = true := by simp; omega
      have BA := Lib.hid (Blk.new wr #[.int .i64 0, .slice none 0 0, .int .i64 0, .int .i64 0] 28)
      have FA := Lib.hid ((Fr0.refl wr).alloc (.cells #[.int .i64 0, .slice none 0 0, .int .i64 0, .int .i64 0] 28))
      have NB := Lib.hid (show nd ≤ 100000 from by have h1 := (I.out).rd.le; have h2 := ND.out; have h3 := HNB.out; omega)
      have HN0 := Lib.hid (rnum_any ((I.out).r.fr0 FA.out) (by have h1 := NB.out; have h2 := ND.out; omega))
      have RB := Lib.hid (fun h => (I.out).rd.bad DNE.out h)
      have RM := Lib.hid (fun h1 h2 => (I.out).rd.more DNE.out h1 h2)
      have HW := Lib.hid (show rawD d = (if (rNum d 0).1 = 1 then (⟨1, (rText (rNum d 0).2.1 (rNum d 0).2.2 16).1, 0, 0⟩, (rText (rNum d 0).2.1 (rNum d 0).2.2 16).2.1, (rText (rNum d 0).2.1 (rNum d 0).2.2 16).2.2)
        else if (rNum d 0).1 = 2 then
          (⟨2, [], winN (rNum (rNum d 0).2.1 (rNum d 0).2.2).1, winN (rNum (rNum (rNum d 0).2.1 (rNum d 0).2.2).2.1 (rNum (rNum d 0).2.1 (rNum d 0).2.2).2.2).1⟩, (rNum (rNum (rNum d 0).2.1 (rNum d 0).2.2).2.1 (rNum (rNum d 0).2.1 (rNum d 0).2.2).2.2).2.1, (rNum (rNum (rNum d 0).2.1 (rNum d 0).2.2).2.1 (rNum (rNum d 0).2.1 (rNum d 0).2.2).2.2).2.2)
        else (⟨if (rNum d 0).1 ≤ 4 then (rNum d 0).1 else 0, [], 0, 0⟩, (rNum d 0).2.1, (rNum d 0).2.2) : Dd × List UInt8 × Int) from rfl)
      have HQ := rNum_le d 0
      have HWL := Lib.hid (rawD_le d)
      obtain ⟨raw, hraw⟩ : ∃ r, r = rawD d := ⟨_, rfl⟩
      rw [← hraw] at HW HWL RB RM
      obtain ⟨Q, hq⟩ : ∃ r, r = rNum d 0 := ⟨_, rfl⟩
      rw [← hq] at HW HN0 HQ
      clear hraw hq h0
      obtain ⟨q1, r1, e1⟩ := Q
      simp only at HW HN0 HQ
      have R1L := Lib.hid (show r1.length ≤ 100000 by have h1 := NB.out; have h2 := ND.out; have h3 := HQ.1; omega)
      have E1Q := Lib.hid HQ.2.2.2
      clear HQ
      by_cases hq4 : q1 ≤ 4
      · have b1 : decide ((q1 : Int) ≤ 4) = true := by simp; omega
        have b2 : decide (q1 ≤ 4) = true := by simpa using hq4
        have y1 : IntKind.i64.wrap (q1 : Int) = q1 := by rw [IntKind.wrap_i64]; omega
        have HW3 := Lib.hid (fun (h1 : q1 ≠ 1) (h2 : q1 ≠ 2) => show raw = (⟨(q1 : Int), [], 0, 0⟩, r1, e1) by rw [HW.out, if_neg h1, if_neg h2, if_pos hq4])
        clear hq4
        go_upto_block 2 with (first
          | (go_at_call 30; refine (HL0.out).mono ?_; rintro e w' ⟨rfl, rfl⟩)
          | (go_at_call 31; refine (HE0.out).mono ?_; rintro e w' ⟨rfl, rfl⟩)
          | (go_at_call 32; refine (HN0.out).mono ?_; rintro e w4 ⟨rfl, hf, A6, c6, hr⟩; have B4 := Lib.hid ((BA.out).fr1 hf (by have := PL.out; omega)); have F4 := Lib.hid (Fr1.trans (Fr1.of0 FA.out) hf); have R4 := Lib.hid hr; have k0 := (B4.out).cell 0 rfl; have kf := (B4.out).free 0; clear hf hr))
        have V4 := Lib.hid ((Fr1.refl wr.heap.size w4).set 0 (.int .i64 (q1 : Int)))
        have B5 := Lib.hid ((B4.out).set 0 (.int .i64 (q1 : Int)))
        have F5 := Lib.hid (Fr.new F4.out V4.out (.inr (Nat.le_refl _)))
        have R5 := Lib.hid ((R4.out).frT B4.out (by decide) (by decide) V4.out)
        have WL := Lib.hid ((I.out).f.size)
        go_cut [] (fun wx => ReadIn w wr p raw wx)
        case first =>
          by_cases hk1 : q1 = 1
          · subst hk1
            have HV := Lib.hid (show raw = (⟨1, (rText r1 e1 16).1, 0, 0⟩, (rText r1 e1 16).2.1, (rText r1 e1 16).2.2) by rw [HW.out, if_pos rfl])
            have HX := Lib.hid (rtext_any (most := 16) R5.out (by have := R1L.out; omega) (by omega))
            clear HW HW3
            go_wp2_with (first
              | (go_at_call 33; refine (HX.out).mono ?_; rintro e w6 ⟨v6, rfl, hown, hf, A7, c7, hr⟩; have S6 := Lib.hid (SlO.low (SlO.of_own hown) (show w.heap.size ≤ (w4.setCell ⟨wr.heap.size, 0, none⟩ (.int .i64 (1 : Nat))).heap.size by have h1 := (F4.out).size; have h2 := WL.out; simp; omega)); obtain ⟨A8, c8, rfl, -⟩ := (S6.out).form; have B6 := Lib.hid ((B5.out).fr1 hf (by have := PL.out; omega)); have F6 := Lib.hid (Fr1.trans F5.out hf); have R6 := Lib.hid hr; have k1 := (B6.out).cell 1 rfl; have kg := (B6.out).free 1; clear hown hf hr))
            go_meet
            have V7 := (Fr1.refl wr.heap.size w6).set 1 (.slice A8 (rText r1 e1 16).1.length c8)
            refine ⟨A8, c8, A7, c7, ?_, ?_, ?_, ?_⟩
            · rw [HV.out]; exact (B6.out).set 1 _
            · rw [HV.out]; exact (R6.out).frT B6.out (by decide) (by decide) V7
            · rw [HV.out]; exact (S6.out).fr1 V7 B6.out (by decide)
            · exact Fr.new F6.out V7 (.inr (Nat.le_refl _))
          · by_cases hk2 : q1 = 2
            · subst hk2
              have HV := Lib.hid (show raw = (⟨2, [], winN (rNum r1 e1).1, winN (rNum (rNum r1 e1).2.1 (rNum r1 e1).2.2).1⟩, (rNum (rNum r1 e1).2.1 (rNum r1 e1).2.2).2.1, (rNum (rNum r1 e1).2.1 (rNum r1 e1).2.2).2.2) by rw [HW.out, if_neg (by decide), if_pos rfl])
              have HX := Lib.hid (rnum_any R5.out (by have := R1L.out; omega))
              have HY := Lib.hid (fun W A c (h : RdrV W p A c (rNum r1 e1).2.1 (rNum r1 e1).2.2) => rnum_any h (by have h1 := (rNum_le r1 e1).1; have h2 := R1L.out; omega))
              have HWN := Lib.hid (fun n W => (window_any n W).mono (fun e w' h => show e = _ ∧ W = w' from ⟨h.1, h.2.symm⟩))
              obtain ⟨Q2, hq2⟩ : ∃ q, q = rNum r1 e1 := ⟨_, rfl⟩
              rw [← hq2] at HV HX HY
              obtain ⟨Q3, hq3⟩ : ∃ q, q = rNum Q2.2.1 Q2.2.2 := ⟨_, rfl⟩
              rw [← hq3] at HV HY
              clear HW HW3 hk1 hq2 hq3
              go_wp2_with (first
                | (have _q := B6; go_at_call 32; refine (HY.out _ _ _ R6.out).mono ?_; rintro e w7 ⟨rfl, hf, A8, c8, hr⟩; have B7 := Lib.hid ((B6.out).fr1 hf (by have := PL.out; omega)); have F7 := Lib.hid (Fr1.trans F6.out hf); have R7 := Lib.hid hr; have k2 := (B7.out).cell 2 rfl; have kg := (B7.out).free 2; have k3 := (B7.out).cell 3 rfl; have kh := (B7.out).free 3; clear hf hr)
                | (go_at_call 32; refine (HX.out).mono ?_; rintro e w6 ⟨rfl, hf, A7, c7, hr⟩; have B6 := Lib.hid ((B5.out).fr1 hf (by have := PL.out; omega)); have F6 := Lib.hid (Fr1.trans F5.out hf); have R6 := Lib.hid hr; clear hf hr)
                | (go_at_call 34; refine (HWN.out _ _).mono ?_; rintro e w' ⟨rfl, rfl⟩))
              go_meet
              have V7 : Fr1 wr.heap.size w7 ((w7.setCell ⟨wr.heap.size, 2, none⟩ (.int .i64 (winN Q2.1))).setCell ⟨wr.heap.size, 3, none⟩ (.int .i64 (winN Q3.1))) := ((Fr1.refl wr.heap.size w7).set 2 _).set 3 _
              refine ⟨none, 0, A8, c8, ?_, ?_, ?_, ?_⟩
              · rw [HV.out]; exact ((B7.out).set 2 _).set 3 _
              · rw [HV.out]; exact (R7.out).frT B7.out (by decide) (by decide) V7
              · rw [HV.out]; exact SlO.nil _ _
              · exact Fr.new F7.out V7 (.inr (Nat.le_refl _))
            · have HV := Lib.hid (HW3.out hk1 hk2)
              have s1 : ((q1 : Int) == 1) = false := by simp; omega
              have s2 : (q1 == 1) = false := by simpa using hk1
              have s3 : ((q1 : Int) == 2) = false := by simp; omega
              have s4 : (q1 == 2) = false := by simpa using hk2
              clear HW HW3 hk1 hk2
              go_wp2_with fail
              go_meet
              refine ⟨none, 0, A6, c6, ?_, ?_, ?_, ?_⟩
              · rw [HV.out]; exact B5.out
              · rw [HV.out]; exact R5.out
              · rw [HV.out]; exact SlO.nil _ _
              · exact F5.out
        case rest =>
          obtain ⟨Bx, ex, A7, c7, hB, hR, hS, hF⟩ := hcut
          obtain ⟨x, rr, er⟩ := raw
          simp only at RM RB HWL hB hR hS hF
          have HE := Lib.hid ((rerr_any hR).mono (fun e w' h => show e = _ ∧ wc = w' from ⟨h.1, h.2.symm⟩))
          have HMY := Lib.hid (fun W => may_any x.kind x.rows x.cols Bx x.t.length ex W (by have := hS.rd.le63; omega))
          have HMD := Lib.hid (show mayN x.kind x.t.length x.rows x.cols = mayD x from rfl)
          rw [HMD.out] at HMY
          have K := Lib.hid ((I.out).kd hF)
          have RX := Lib.hid hR
          have SX := Lib.hid hS
          have BXX := Lib.hid hB
          have FXX := Lib.hid hF
          obtain ⟨m, hm⟩ : ∃ m, m = mayD x := ⟨_, rfl⟩
          rw [← hm] at HMY RM RB
          obtain ⟨z0, z1, z2, z3⟩ := dd_cells hB
          clear hm hB hR hS hF HMD HW HW3 HN0 B4 F4 R4 k0 kf V4 B5 F5 R5 BA FA
          by_cases he : er = 0
          · subst he
            cases m
            · have HV := Lib.hid (HPN.out (RB.out (.inr rfl)))
              clear RB RM
              go_upto_region 16 with (first
                | (go_at_call 31; refine (HE.out).mono ?_; rintro e w' ⟨rfl, rfl⟩)
                | (go_at_call 26; refine (HMY.out _).mono ?_; rintro e w7 ⟨rfl, hf⟩; have Y7 := Lib.hid ((K.out).2.1.fr0 hf); have F7 := Lib.hid (Fr0.trans (K.out).1 hf); clear hf))
              have f0 := (Y7.out).free 0
              have f1 := (Y7.out).free 1
              have g0 := (Y7.out).cell 0 rfl
              have g1 := (Y7.out).cell 1 rfl
              go_wp21
              rw [HV.out]
              refine bodyPost_ret (v := .tuple #[.agg #[.int .i64 0, .slice none 0 0], .int .i64 4]) (sret2 rfl (blk_set2 Y7.out _ _) rfl rfl) rfl ⟨none, 0, rfl, DsG.nil _ _ _, fr_set2 F7.out (by omega) _ _⟩
            · have RM2 := Lib.hid (RM.out rfl rfl)
              have HLT := Lib.hid ((HWL.out).2.1 rfl)
              have hkb := Lib.hid (show k + 1 ≤ 1000000 by have h1 := (I.out).rd.le; have h2 := (I.out).kk; have h3 := HNB.out; omega)
              clear RB RM
              go_wp2_with (first
                | (go_at_call 31; refine (HE.out).mono ?_; rintro e w' ⟨rfl, rfl⟩)
                | (go_at_call 26; refine (HMY.out _).mono ?_; rintro e w7 ⟨rfl, hf⟩; have Y7 := Lib.hid ((K.out).2.1.fr0 hf); have Z7 := Lib.hid ((K.out).2.2.1.fr0 hf); have D7 := Lib.hid ((K.out).2.2.2.fr0 hf (fun v t h => h.fr0 hf)); have F7 := Lib.hid (Fr0.trans (K.out).1 hf); have R7 := Lib.hid ((RX.out).fr0 hf); have S7 := Lib.hid ((SX.out).fr0 hf); have B7 := Lib.hid ((BXX.out).fr0 hf); have o1 := (Z7.out).cell 1 rfl; obtain ⟨y0, y1, y2, y3⟩ := dd_cells B7.out; clear hf)
                | (at_builtin; have _q := Z7; refine list_append_ds (n := k) (m := 1) (base := w.heap.size + 2) (T := SlO w.heap.size) (l2 := [(.slice Bx x.t.length ex, x)]) rfl _ _ rfl (by have h1 := (Y7.out).lt; simp; omega) ((D7.out).fr0 ((Fr0.refl w7).alloc _) (fun v t h => h.fr0 ((Fr0.refl w7).alloc _))) rfl (I.out).kk rfl (rd_dd (Blk.new w7 (ddA x Bx ex) 28)) rfl (by intro y hy; rw [List.mem_singleton] at hy; subst hy; exact ((S7.out).fr0 ((Fr0.refl w7).alloc _)).rd) hkb.out (fun w' hf v t h => slo_keep ((D7.out).fr0 ((Fr0.refl w7).alloc _) (fun v t h => h.fr0 ((Fr0.refl w7).alloc _))) hf h) (fun w' hf y hy => by rw [List.mem_singleton] at hy; subst hy; exact slo_keep ((D7.out).fr0 ((Fr0.refl w7).alloc _) (fun v t h => h.fr0 ((Fr0.refl w7).alloc _))) hf ((S7.out).fr0 ((Fr0.refl w7).alloc _))) ?_; intro A8 c8 w8 hD hF; have D8 := Lib.hid hD; have F8 := Lib.hid (show Fr0 w w8 from Fr.then ((F7.out).alloc _) hF (fun i hi hl => by have := ((D7.out).lo i hi).1; omega)); have Y8 := Lib.hid (((Y7.out).alloc _).fr hF (fun hi => by have := ((D7.out).lo _ hi).1; omega)); have Z8 := Lib.hid (((Z7.out).alloc _).fr hF (fun hi => (D7.out).ne Z7.out (by decide) _ hi rfl)); have R8 := Lib.hid (((R7.out).fr0 ((Fr0.refl w7).alloc _)).frO ((D7.out).fr0 ((Fr0.refl w7).alloc _) (fun v t h => h.fr0 ((Fr0.refl w7).alloc _))) hF); have o2 := (Z8.out).cell 1 rfl; have o3 := (Z8.out).free 1; clear hD hF))
              go_roundw
              case measure =>
                have V9 := (Fr1.refl g6 w8).set 1 (.slice A8 (k + 1) c8)
                have h1 := ((R8.out).frT Z8.out (by decide) (by decide) V9).lenAt
                have h2 := HLT.out
                have h3 := HLA.out
                have h4 := ND.out
                simp only [h1, h3]; omega
              case rel =>
                have V9 := (Fr1.refl g6 w8).set 1 (.slice A8 (k + 1) c8)
                exact ⟨k + 1, A8, c8, acc ++ [x], A7, c7, rr, Lib.hid ⟨Fr0.new F8.out V9 (by have := G6.out; omega), (Y8.out).fr1 V9 (by have := G6.out; omega), (Z8.out).set 1 _, G6.out, (R8.out).frT Z8.out (by decide) (by decide) V9, P3.out, (D8.out).frS V9 Z8.out (by decide) (by decide), by rw [List.length_append, (I.out).kk]; rfl, RM2.out⟩⟩
          · have s1 : (er != 0) = true := by simpa using he
            have HV := Lib.hid (HPN.out (RB.out (.inl he)))
            clear RB RM he
            go_upto_region 16 with (first
              | (go_at_call 31; refine (HE.out).mono ?_; rintro e w' ⟨rfl, rfl⟩))
            have Y7 := Lib.hid (K.out).2.1
            have f0 := (Y7.out).free 0
            have f1 := (Y7.out).free 1
            have g0 := (Y7.out).cell 0 rfl
            have g1 := (Y7.out).cell 1 rfl
            go_wp21
            rw [HV.out]
            refine bodyPost_ret (v := .tuple #[.agg #[.int .i64 0, .slice none 0 0], .int .i64 4]) (sret2 rfl (blk_set2 Y7.out _ _) rfl rfl) rfl ⟨none, 0, rfl, DsG.nil _ _ _, fr_set2 (K.out).1 (by omega) _ _⟩
      · have b1 : decide ((q1 : Int) ≤ 4) = false := by simp; omega
        have b2 : decide (q1 ≤ 4) = false := by simpa using hq4
        have he : e1 = 0 := by
          by_cases h : e1 = 0
          · exact h
          · have := E1Q.out h; omega
        subst he
        have HWV := Lib.hid (show raw = (⟨0, [], 0, 0⟩, r1, 0) by rw [HW.out, if_neg (by omega), if_neg (by omega), if_neg hq4])
        have HV := Lib.hid (HPN.out (RB.out (.inr (by rw [HWV.out]; rfl))))
        have HMY := Lib.hid (fun W => show Calls Try.prog 26 #[.agg #[.int .i64 0, .slice none 0 0, .int .i64 0, .int .i64 0]] W fun e w' => e = .returned (.bool false) ∧ Fr0 W w' from may_any 0 0 0 none 0 0 W (by omega))
        clear HW RB RM HWV hq4
        go_upto_region 16 with (first
          | (go_at_call 30; refine (HL0.out).mono ?_; rintro e w' ⟨rfl, rfl⟩)
          | (have _q := R4; go_at_call 31; refine (rerr_any R4.out).mono ?_; rintro e w' ⟨rfl, hw⟩; obtain rfl : w4 = w' := hw.symm)
          | (go_at_call 31; refine (HE0.out).mono ?_; rintro e w' ⟨rfl, rfl⟩)
          | (go_at_call 32; refine (HN0.out).mono ?_; rintro e w4 ⟨rfl, hf, A6, c6, hr⟩; have B4 := Lib.hid ((BA.out).fr1 hf (by have := PL.out; omega)); have K4 := Lib.hid ((I.out).kd (Fr1.trans (Fr1.of0 FA.out) hf)); have R4 := Lib.hid hr; have k0 := (B4.out).cell 0 rfl; have k1 := (B4.out).cell 1 rfl; have k2 := (B4.out).cell 2 rfl; have k3 := (B4.out).cell 3 rfl; clear hf hr)
          | (go_at_call 26; refine (HMY.out _).mono ?_; rintro e w7 ⟨rfl, hf⟩; have Y7 := Lib.hid ((K4.out).2.1.fr0 hf); have F7 := Lib.hid (Fr0.trans (K4.out).1 hf); clear hf))
        have f0 := (Y7.out).free 0
        have f1 := (Y7.out).free 1
        have g0 := (Y7.out).cell 0 rfl
        have g1 := (Y7.out).cell 1 rfl
        go_wp21
        rw [HV.out]
        refine bodyPost_ret (v := .tuple #[.agg #[.int .i64 0, .slice none 0 0], .int .i64 4]) (sret2 rfl (blk_set2 Y7.out _ _) rfl rfl) rfl ⟨none, 0, rfl, DsG.nil _ _ _, fr_set2 F7.out (by omega) _ _⟩
end Go.Proofs.Ytcbllkkbpjobpaa
