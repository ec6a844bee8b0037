/- IntoPlays: whatever instructions come, a hearer of texts answers what the document says, and holds what it says; a copy goes its own way: the law returns true for every input. No condition. -/
import Derived.Test.YtbfamnfhnjgllaaPlaysLaw
import Derived.Test.YtbfamnfhnjgllaaCopy24
import Derived.Lib.ConvBytes
namespace Go.Proofs.Ytbfamnfhnjgllaa
open Go.RowKit

/-- What the loop carries: the hearer and the reference's, both holding 'all'. -/
structure PlaysInv (B0 p pr : Nat) (w wr : World) (all : List (Int × ByteArray)) : Prop where
  fr : Fr0 w wr
  b0 : B0 ≤ p
  b1 : B0 ≤ pr
  prog : ∃ sv, InAt wr p (.func (.func 13) #[] #[]) sv all
  ref : ∃ nv sv, RefAt wr pr nv sv all
  rises : Rises all
  pos : 0 < all.length
  most : all.length ≤ 16
  small : ∀ x ∈ all, x.2.size ≤ 100

theorem PlaysInv.fr0 {B0 p pr : Nat} {w wr w' : World} {all : List (Int × ByteArray)} (h : PlaysInv B0 p pr w wr all) (hf : Fr0 wr w') : PlaysInv B0 p pr w w' all := by
  obtain ⟨h1, h2, h3, ⟨sv, h4⟩, ⟨nv, sv2, h5⟩, h6, h7, h8, h9⟩ := h
  exact ⟨h1.trans hf, h2, h3, ⟨sv, h4.fr0 hf⟩, ⟨nv, sv2, h5.fr0 hf⟩, h6, h7, h8, h9⟩
theorem InAt.frN {w w' : World} {p b : Nat} {fv sv : Value} {l : List (Int × ByteArray)} {vs : Array Value} {t' : TypeId} (h : InAt w p fv sv l) (hf : Fr1 b w w') (hb : Blk w b vs t') (hne : p ≠ b) (h2 : 66 ≠ t') : InAt w' p fv sv l :=
  ⟨h.blk.fr1 hf hne, h.rd.frT h.ty hf hb h2, h.ty.fr1 hf hb h2⟩

set_option maxRecDepth 100000 in
set_option maxHeartbeats 4000000 in
theorem intoPlays_any (first : ByteArray) (lv : Value) (l : List InsD) (cv : Value) (z : List Int) {w : World} (hl : InsArg w lv l) (hz : Rd w 1 cv z.length (icells z)) (hs : first.size ≤ 9223372036854775807) :
    Calls Try.prog 4 #[.string first, lv, cv] w fun e w' => e = .returned (.bool true) ∧ Fr0 w w' := by
  obtain ⟨A, c, rfl, hnc, _, _⟩ := hl.rd.form
  obtain ⟨Az, cz, rfl, hncz, _, _⟩ := hz.form
  have hl63 := hl.rd.le63
  have hz63 := hz.le63
  by_cases hf100 : 100 < first.size
  · go_enter Try.func4, Try.ntmps4
    go_wp2_with (go_at_call 7; refine (known_any _).mono ?_; rintro e w' ⟨rfl, hf⟩)
    go_ret
    exact ⟨rfl, hf⟩
  have hb : decide ((100 : Int) < (first.size : Int)) = false := by simp; omega
  by_cases hl100 : 100 < l.length
  · go_enter Try.func4, Try.ntmps4
    go_wp2_with (go_at_call 7; refine (known_any _).mono ?_; rintro e w' ⟨rfl, hf⟩)
    go_ret
    exact ⟨rfl, hf⟩
  have hb2 : decide ((100 : Int) < (l.length : Int)) = false := by simp; omega
  by_cases hz20 : 20 < z.length
  · go_enter Try.func4, Try.ntmps4
    go_wp2_with (go_at_call 7; refine (known_any _).mono ?_; rintro e w' ⟨rfl, hf⟩)
    go_ret
    exact ⟨rfl, hf⟩
  have hb3 : decide ((20 : Int) < (z.length : Int)) = false := by simp; omega
  go_enter Try.func4, Try.ntmps4
  go_wp2_with (go_at_call 7; refine (known_any _).mono ?_; rintro e w0 ⟨rfl, hf0⟩)
  refine (new_any _ _ _ _).mono ?_
  rintro e w1 ⟨p0, sv0, rfl, hin, hp0, hp1, hf1⟩
  replace hf1 := hf0.trans hf1
  replace hp0 : w.heap.size ≤ p0 := Nat.le_trans hf0.size hp0
  go_wp2_with fail
  refine (refNew_any _ _).mono ?_
  rintro e w2 ⟨pr, nvr, svr, rfl, href, hpr0, hpr1, hf2⟩
  have hinv : PlaysInv w.heap.size p0 pr w w2 [(0, first)] := ⟨hf1.trans hf2, hp0, Nat.le_trans hf1.size hpr0, ⟨sv0, hin.fr0 hf2⟩, ⟨nvr, svr, href⟩, fun i j hi hj => by simp at hj; omega, by simp, by simp, fun x hx => by simp at hx; rw [hx]; simp; omega⟩
  clear hin href hf0 hf1 hf2 hp0 hp1 hpr0 hpr1
  go_wp2_with fail
  go_loopw [7, 9] (fun v7 v9 wr => ∃ (k p : Nat) (all : List (Int × ByteArray)), k ≤ l.length ∧ v9 = .int .i64 k ∧ v7 = .pointer (some ⟨p, 0, none⟩) ∧ PlaysInv w.heap.size p pr w wr all) (fun _ v9 _ => l.length - (intOf v9).toNat)
  case atStart => exact ⟨0, p0, _, Nat.zero_le _, rfl, rfl, hinv⟩
  case round =>
    clear hinv
    obtain ⟨k, p, all, hk, rfl, rfl, hi⟩ := hrel
    have hfr := hi.fr
    by_cases hlt : k < l.length
    · have hl2 := hl.fr0 hfr
      obtain ⟨g, off, rfl, hic, hg, hc⟩ := hl2.rd.cellA (i := k) hlt
      have c4 := hc 4 _ (insCells_at l k hlt).2.2.2.2
      obtain ⟨y, hy⟩ : ∃ y, y = l[k] := ⟨_, rfl⟩
      rw [← hy] at c4
      have hyd0 : RdB w y.dv y.d := hl.each y (by rw [hy]; exact List.getElem_mem _)
      obtain ⟨Ad, cd, hdv, hncd, _, _⟩ := hyd0.form
      rw [hdv] at c4 hyd0
      have hd63 : y.d.length ≤ 9223372036854775807 := Rd.le63 hyd0
      have Hy := Lib.hid (And.intro hy hdv)
      have k0 : (0 : Int) ≤ (k : Int) := by omega
      have k1 : (k : Int) < (l.length : Int) := by omega
      have Hl := Lib.hid hl; have Hz := Lib.hid hz; have Hi := Lib.hid hi; have Hfr := Lib.hid hfr
      clear hc hy hdv hl hl2 hz hi hfr
      by_cases hd100 : 100 < y.d.length
      · go_wp2_with fail
        go_ret
        exact ⟨rfl, Hfr.out⟩
      · have hb4 : decide ((100 : Int) < (y.d.length : Int)) = false := by simp; omega
        go_wp2_with fail
        go_loopw [7, 10] (fun v7 v10 wr => ∃ (j q : Nat), j ≤ z.length ∧ v10 = .int .i64 j ∧ v7 = .pointer (some ⟨q, 0, none⟩) ∧ PlaysInv w.heap.size q pr w wr all) (fun _ v10 _ => z.length - (intOf v10).toNat)
        case atStart => exact ⟨0, p, Nat.zero_le _, rfl, rfl, Hi.out⟩
        case round =>
          obtain ⟨j, q, hj, rfl, rfl, hiq⟩ := hrel
          clear c4
          by_cases hjl : j < z.length
          · obtain ⟨gz, oz, rfl, hicz, hgz, hcz⟩ := (Hz.out.fr0 hiq.fr).cellA (i := j) hjl
            have ez := hcz 0 (.int .i64 z[j]) (by simp [icells, hjl])
            simp only [Nat.mul_one, Nat.add_zero] at ez
            obtain ⟨zj, hzj⟩ : ∃ zj, zj = z[j] := ⟨_, rfl⟩
            rw [← hzj] at ez
            have j0 : (0 : Int) ≤ (j : Int) := by omega
            have j1 : (j : Int) < (z.length : Int) := by omega
            have Hiq := Lib.hid hiq
            clear hcz hzj hiq
            by_cases hzk : zj = (k : Int)
            · have hzb : (zj == (k : Int)) = true := by simp [hzk]
              obtain ⟨⟨sv, hin⟩, ⟨nv, sv2, href⟩⟩ := And.intro Hiq.out.prog Hiq.out.ref
              have hq0 := Hiq.out.b0
              have hpos := Hiq.out.pos
              have h16 := Hiq.out.most
              have hsm := Hiq.out.small
              have Hsm := Lib.hid hsm
              clear hzk hsm
              go_wp2_with fail
              have hqw := hin.blk.lt
              refine (copy_any hin (by omega)).mono ?_
              rintro e w3 ⟨q2, sv3, rfl, hin2, hq2, hq2', hf3⟩
              have hinq := hin.fr0 hf3
              go_wp2_with fail
              refine (newest_any hinq hpos).mono ?_
              rintro e w4 ⟨rfl, hf4⟩
              have hinq4 := hinq.fr0 hf4
              have hin24 := hin2.fr0 hf4
              have href4 := (href.fr0 hf3).fr0 hf4
              have hF4 : Fr0 w w4 := (Hiq.out.fr.trans hf3).trans hf4
              obtain ⟨S, hS⟩ : ∃ S, S = (all[all.length - 1]'(by omega)).2 := ⟨_, rfl⟩
              have hSs : S.size ≤ 100 := by rw [hS]; exact Hsm.out _ (List.getElem_mem _)
              obtain ⟨N, hN⟩ : ∃ N, N = (all[all.length - 1]'(by omega)).1 := ⟨_, rfl⟩
              rw [← hS, ← hN]
              obtain ⟨T, hT⟩ : ∃ T, T = S ++ (⟨#[62, 111, 116, 104, 101, 114]⟩ : ByteArray) := ⟨_, rfl⟩
              have hTs : T.size = S.size + 6 := by rw [hT, ByteArray.size_append]; rfl
              obtain ⟨W5, c5, hrun, hrd5, hF5, hz5⟩ := conv_str (P := Try.prog) w4 9 26 5 Try.underlying9 Try.underlying26 Try.underlying5 T (by omega)
              have hTl : T.data.toList.length ≤ 1000 := by
                have : T.data.toList.length = T.size := by rw [Array.length_toList]; rfl
                omega
              have hssz : ¬ 9223372036854775807 < S.size + 6 := by omega
              rw [hT] at hrun
              have hqlt := hinq4.blk.lt
              have HX := Lib.hid (And.intro hinq4 (And.intro hin24 (And.intro href4 (And.intro hF4 (And.intro hrd5 hF5)))))
              have HT := Lib.hid hT
              clear hS hN hT hin hinq hin2 href hinq4 hin24 href4 hF4 hrd5 hF5 hf3 hf4 hTs
              go_wp2_with fail
              have hT6 : S.size + 6 = T.data.toList.length := by rw [Array.length_toList, HT.out]; show _ = (S ++ _).size; rw [ByteArray.size_append]; rfl
              rw [hT6]
              obtain ⟨hinq4, hin24, href4, hF4, hrd5, hF5⟩ := HX.out
              refine (hear_any apply_fn (hinq4.fr0 hF5) hpos (by omega) (fun x hx => by have := Hsm.out x hx; omega) 0 1073741824 0 0 _ _ T.data.toList (by omega) hrd5 (fun _ h => by injection h with h; simp at h; omega)).mono ?_
              rintro e w6 ⟨sv6, rfl, hin6, hf6⟩
              obtain ⟨hr6, hp6, hm6, hs6⟩ := hear_keeps all 0 1073741824 0 0 T.data.toList Hiq.out.rises hpos h16 1000 (fun x hx => by have := Hsm.out x hx; omega) hTl
              generalize (hear applyF all 0 1073741824 0 0 T.data.toList) = R at *
              have hF45 := hF5
              have hb6 := (hinq4.fr0 hF5).blk
              have hq2q : q2 ≠ q := by omega
              have hin26 := (hin24.fr0 hF5).frN hf6 hb6 hq2q (by decide)
              have href6 := (href4.fr0 hF5).fr1 hf6 hb6 (by decide) (by decide) (by decide)
              have hF6 : Fr0 w w6 := (hF4.trans hF5).new hf6 hq0
              have HY := Lib.hid (And.intro hin6 (And.intro hr6 (And.intro hp6 (And.intro hm6 (And.intro hs6 (And.intro hin26 (And.intro href6 hF6)))))))
              clear hin6 hr6 hp6 hm6 hs6 hf6 hF5 hF4 hin24 href4 hrd5 hinq4 hF45 hb6 hin26 href6 hF6 HX hT6 hrun
              go_wp2_with fail
              obtain ⟨hin6, hr6, hp6, hm6, hs6, hin26, href6, hF6⟩ := HY.out
              refine (hear_any apply_fn hin6 hp6 (by omega) (fun x hx => by have := hs6 x hx; omega) 1073741824 1073741824 0 1073741824 none 0 [] (by decide) (RdB.nil w6) (fun h => absurd h (by decide))).mono ?_
              rintro e w7 ⟨sv7, rfl, hin7, hf7⟩
              have hfin : PlaysInv w.heap.size q2 pr w w7 all := ⟨hF6.new hf7 hq0, Nat.le_trans Hiq.out.fr.size hq2, Hiq.out.b1, ⟨sv3, hin26.frN hf7 hin6.blk hq2q (by decide)⟩, ⟨nv, sv2, href6.fr1 hf7 hin6.blk (by decide) (by decide) (by decide)⟩, Hiq.out.rises, hpos, h16, Hsm.out⟩
              have HF := Lib.hid hfin
              clear hfin hin7 hf7 hin6 hr6 hp6 hm6 hs6 hin26 href6 hF6 HY
              go_wp2_with fail
              go_roundw
              case rel => first | exact ⟨j + 1, q2, by omega, by go_num, rfl, HF.out⟩ | ((repeat apply Exists.intro); exact ⟨⟨j + 1, q2, by omega, by go_num, rfl, HF.out⟩, rfl⟩)
              case measure => simp [intOf]; omega
            · have hzb : (zj == (k : Int)) = false := by simp [hzk]
              clear hzk
              go_wp2_with fail
              go_roundw
              case rel => first | exact ⟨j + 1, q, by omega, by go_num, rfl, Hiq.out⟩ | ((repeat apply Exists.intro); exact ⟨⟨j + 1, q, by omega, by go_num, rfl, Hiq.out⟩, rfl⟩)
              case measure => simp [intOf]; omega
          · clear Hi Hz
            have hl3 := Hl.out.fr0 hiq.fr
            obtain ⟨hy1, hy2⟩ := Hy.out
            have d0 := hl3.rd.cellG (j := 0) hlt (insCells_at l k hlt).1
            have d1 := hl3.rd.cellG hlt (insCells_at l k hlt).2.1
            have d2 := hl3.rd.cellG hlt (insCells_at l k hlt).2.2.1
            have d3 := hl3.rd.cellG hlt (insCells_at l k hlt).2.2.2.1
            have d4 := hl3.rd.cellG hlt (insCells_at l k hlt).2.2.2.2
            simp only [Nat.add_zero] at d0
            rw [← hy1] at d0 d1 d2 d3 d4
            rw [hy2] at d4
            have hyd : RdB wr (.slice Ad y.d.length cd) y.d := hyd0.fr0 hiq.fr
            have hdb : ∀ b, w.heap.size ≤ b → 0 < y.d.length → Value.blk (.slice Ad y.d.length cd) ≠ some b := fun b hb hn h => by have := Rd.blk_lt hyd0 hn b h; omega
            obtain ⟨⟨sv, hin⟩, ⟨nv, sv2, href⟩⟩ := And.intro hiq.prog hiq.ref
            have hpos := hiq.pos
            have h16 := hiq.most
            have hq0 := hiq.b0
            have hpr0 := hiq.b1
            have hkeep := hear_keeps all y.old y.new y.ack y.trash y.d hiq.rises hpos h16 100 hiq.small (by omega)
            have hre := rhear_eq all y.old y.new y.ack y.trash y.d hiq.rises hpos
            have hH := Lib.hid (hear_any apply_fn hin hpos (by omega) (fun x hx => by have := hiq.small x hx; omega) y.old y.new y.ack y.trash Ad cd y.d (by omega) hyd (hdb q hq0))
            have HZ := Lib.hid (And.intro hiq (And.intro hin (And.intro href (And.intro hkeep hre))))
            clear hl3 hy1 hy2 hiq hin href hkeep hre
            go_wp2_with fail
            refine hH.out.mono ?_
            rintro e w3 ⟨sv3, rfl, hin3, hf3⟩
            obtain ⟨hiq, hin, href, hkeep, hre⟩ := HZ.out
            have href3 := href.fr1 hf3 hin.blk (by decide) (by decide) (by decide)
            have hyd3 := hyd.fr1 hf3 (hdb q hq0)
            have hf30 : Fr0 w w3 := hiq.fr.new hf3 hq0
            obtain ⟨R, hR⟩ : ∃ R, R = hear applyF all y.old y.new y.ack y.trash y.d := ⟨_, rfl⟩
            have hRef := refHear_any href3 hpos (by omega) (fun x hx => by have := hiq.small x hx; omega) y.old y.new y.ack y.trash Ad cd y.d (by omega) hyd3 (hdb pr hpr0)
            rw [hre, ← hR] at hRef
            rw [← hR] at hkeep hin3 ⊢
            obtain ⟨R1, Rb, Re⟩ := R
            simp only [] at hkeep hin3 hRef
            have HRef := Lib.hid hRef
            have hl4 := Hl.out.fr0 hf30
            obtain ⟨hy1, hy2⟩ := Hy.out
            clear d0 d1 d2 d3 d4
            have d0 := hl4.rd.cellG (j := 0) hlt (insCells_at l k hlt).1
            have d1 := hl4.rd.cellG hlt (insCells_at l k hlt).2.1
            have d2 := hl4.rd.cellG hlt (insCells_at l k hlt).2.2.1
            have d3 := hl4.rd.cellG hlt (insCells_at l k hlt).2.2.2.1
            have d4 := hl4.rd.cellG hlt (insCells_at l k hlt).2.2.2.2
            simp only [Nat.add_zero] at d0
            rw [← hy1] at d0 d1 d2 d3 d4
            rw [hy2] at d4
            have HZ3 := Lib.hid (And.intro hf30 (And.intro hkeep (And.intro hin3 (And.intro href3 hf3))))
            clear hiq hin href hkeep hre href3 hyd3 hyd hf30 hR hRef hl4 hy1 hy2 hin3 hf3 hH HZ
            go_wp2_with fail
            refine HRef.out.mono ?_
            rintro e w4 ⟨nv4, sv4, rfl, href4, hf4⟩
            obtain ⟨hf30, ⟨hrs, hrp, hrm, hrz⟩, hin3, href3, hf3⟩ := HZ3.out
            have hin4 := hin3.fr1 hf4 href3.blk (by decide) (by decide)
            have hf40 : Fr0 w w4 := hf30.new hf4 hpr0
            clear d0 d1 d2 d3 d4 HRef
            go_wp2_with fail
            refine (newest_any hin4 hrp).mono ?_
            rintro e w5 ⟨rfl, hf5⟩
            have hin5 := hin4.fr0 hf5
            have href5 := href4.fr0 hf5
            have hfin : PlaysInv w.heap.size q pr w w5 R1 := ⟨hf40.trans hf5, hq0, hpr0, ⟨_, hin5⟩, ⟨_, _, href5⟩, hrs, hrp, hrm, hrz⟩
            obtain ⟨N, hN⟩ : ∃ N, N = (R1[R1.length - 1]'(by omega)).1 := ⟨_, rfl⟩
            obtain ⟨S, hS⟩ : ∃ S, S = (R1[R1.length - 1]'(by omega)).2 := ⟨_, rfl⟩
            rw [← hN, ← hS]
            obtain ⟨An, cn, rfl, hncn, _, _⟩ := href5.nums.form
            obtain ⟨As, cs, rfl, hncs, _, _⟩ := href5.texts.form
            obtain ⟨gn, on, rfl, hin_, hgn, hcn⟩ := href5.nums.cellA (i := R1.length - 1) (by omega)
            obtain ⟨gs, os, rfl, his_, hgs, hcs⟩ := href5.texts.cellA (i := R1.length - 1) (by omega)
            have e1 := hcn 0 (.int .i64 N) (by rw [hN]; simp [icells, show R1.length - 1 < R1.length from by omega])
            have e2 := hcs 0 (.string S) (by rw [hS]; simp [scells, show R1.length - 1 < R1.length from by omega])
            simp only [Nat.mul_one, Nat.add_zero] at e1 e2
            have e3 : w5.cell? ⟨pr, 0, none⟩ = some (.slice (some ⟨gn, on, none⟩) R1.length cn) := href5.blk.cell 0 rfl
            have e4 : w5.cell? ⟨pr, 1, none⟩ = some (.slice (some ⟨gs, os, none⟩) R1.length cs) := href5.blk.cell 1 rfl
            have hmapl : (R1.map (·.1)).length = R1.length := List.length_map _
            have hHeld : Calls Try.prog 10 #[.pointer (some ⟨q, 0, none⟩)] w5.drew fun e w6 => ∃ v6, e = .returned v6 ∧ Rd w6 1 v6 R1.length (icells (R1.map (·.1))) ∧ Fr0 w5 w6 ∧ w6.cell? ⟨pr, 0, none⟩ = some (.slice (some ⟨gn, on, none⟩) R1.length cn) ∧ w6.cell? ⟨pr, 1, none⟩ = some (.slice (some ⟨gs, os, none⟩) R1.length cs) ∧
                w6.cell? ⟨gn, on + (R1.length - 1), none⟩ = some (.int .i64 N) ∧ w6.cell? ⟨gs, os + (R1.length - 1), none⟩ = some (.string S) := by
              refine (held_any (hin5.fr0 ((Fr0.refl w5).drew)) hrp (by omega)).mono ?_
              rintro e w6 ⟨v6, he, own6, hf6⟩
              have hf6' : Fr0 w5 w6 := ((Fr0.refl w5).drew).trans hf6
              exact ⟨v6, he, Rd.of_own own6, hf6', hf6'.cell e3, hf6'.cell e4, hf6'.cell e1, hf6'.cell e2⟩
            have hInts : ∀ (w6 : World) (v6 : Value), Rd w6 1 v6 R1.length (icells (R1.map (·.1))) → Fr0 w5 w6 → Calls Try.prog 17 #[v6, .slice (some ⟨gn, on, none⟩) R1.length cn] w6 fun e w7 => (e = .returned (.bool true) ∧ Fr0 w5 w7) ∧ w7.cell? ⟨pr, 0, none⟩ = some (.slice (some ⟨gn, on, none⟩) R1.length cn) ∧ w7.cell? ⟨pr, 1, none⟩ = some (.slice (some ⟨gs, os, none⟩) R1.length cs) ∧
                w7.cell? ⟨gn, on + (R1.length - 1), none⟩ = some (.int .i64 N) ∧ w7.cell? ⟨gs, os + (R1.length - 1), none⟩ = some (.string S) := by
              intro w6 v6 hr6 hf6
              refine (ints_any (a := R1.map (·.1)) (b := R1.map (·.1)) (by rw [hmapl]; exact hr6) (by rw [hmapl]; exact href5.nums.fr0 hf6)).mono ?_
              rintro e w7 ⟨he, hf7⟩
              have hf7' := hf6.trans hf7
              exact ⟨⟨by rw [he]; simp, hf7'⟩, hf7'.cell e3, hf7'.cell e4, hf7'.cell e1, hf7'.cell e2⟩
            have HHeld := Lib.hid hHeld; have HInts := Lib.hid hInts; have HFin := Lib.hid hfin
            have n1 : (1 : Int) ≤ (R1.length : Int) := by omega
            have n16 : (R1.length : Int) ≤ 16 := by omega
            have b0 : (Rb != Rb) = false := by simp
            have x0 : (0 : Int) ≤ (R1.length : Int) - 1 := by omega
            have x1 : (R1.length : Int) - 1 < (R1.length : Int) := by omega
            have x3 : ((R1.length : Int) - 1).toNat = R1.length - 1 := by omega
            have x2 : IntKind.i64.wrap ((R1.length : Int) - 1) = (R1.length : Int) - 1 := IntWalk.i64_in _ (by omega)
            have b1 : (!(S.toList == S.toList)) = false := by simp
            clear hHeld hInts hfin hN hS hcn hcs hmapl hin5 href5 hin4 href4 hf40 hf4 hf5 href3 hin3 hf3 hf30 hrs hrz HZ3
            go_wp2_with fail
            go_region_held3 (fun w' => w'.cell? ⟨pr, 0, none⟩ = some (.slice (some ⟨gn, on, none⟩) R1.length cn) ∧ w'.cell? ⟨pr, 1, none⟩ = some (.slice (some ⟨gs, os, none⟩) R1.length cs) ∧
                w'.cell? ⟨gn, on + (R1.length - 1), none⟩ = some (.int .i64 N) ∧ w'.cell? ⟨gs, os + (R1.length - 1), none⟩ = some (.string S)) (go_keep)
              ((first
                | (go_at_call 10; refine (HHeld.out).mono ?_; rintro e w6 ⟨v6, rfl, hr6, hf6, s1, s2, s3, s4⟩)
                | (go_at_call 17; refine (HInts.out w6 v6 hr6 hf6).mono ?_; rintro e w7 ⟨⟨rfl, hf7⟩, t1, t2, t3, t4⟩)))
            have HF7 := Lib.hid (HFin.out.fr0 hf7)
            clear HFin x0 x1 x2 x3
            go_wp2_with fail
            go_roundw
            case rel => first | exact ⟨k + 1, q, R1, by omega, by go_num, rfl, HF7.out⟩ | ((repeat apply Exists.intro); exact ⟨⟨k + 1, q, R1, by omega, by go_num, rfl, HF7.out⟩, rfl⟩)
            case measure => simp [intOf]; omega
    · have : k = l.length := by omega
      subst this
      go_wp2_with fail
      go_ret
      exact ⟨rfl, hfr⟩

namespace IntoPlays
open Go.ChangeShapes Go.WideShapes Go.ChangeAt
open Go.ChangeMaps (open_string shut_string)

theorem own : ownKnob Try.prog.godebug = none := by kernel_rfl
theorem laidOut : laidOutB Try.prog = true := by kernel_rfl

set_option maxRecDepth 100000 in
theorem lifted (os : Os) (started : os.Started) (H : Type) (enc : TypeId × Value → H) :
    ReturnsInHanded {} Try.checked os 4 .any (Rows.intoPlaysSpec.pre6 enc Try.prog Try.f4 Rows.intoPlaysRow.domain false) (Rows.intoPlaysSpec.post enc Try.prog Try.f4 false true false false) := by
  refine returnsInHanded_of_change (C := Try.checked) own started (by kernel_rfl) Try.func4
    (ChangeSpec.witness6 (enc := enc) (C := Try.checked) false ⟨#[], #[.string ⟨#[]⟩, .slice none 0 0, .slice none 0 0], []⟩ 8 (by kernel_rfl) (by kernel_rfl) (by kernel_rfl) (by kernel_rfl)) ?_
  intro W base args ds gs before hval0 hW hcnd _
  have hval : ∀ (j : Nat) t v, Try.f4.params[j]? = some t → args[j]? = some v → Value.okWide Try.prog W .any base t v := hval0
  have hW' := hW
  obtain ⟨p, q, hA0, hV, rfl, hfz, hnd⟩ := hW
  have hA : DataW.TrodAll enc Try.prog W 0 (fun _ => true) true Try.f4.params.toList args.toList ds p := hA0
  rw [Try.params4] at hA hval
  obtain ⟨v0, vs0, d0', ds0, p0, q0, hargs, rfl, rfl, h0, r0⟩ := trodAll_cons hA
  obtain ⟨v1, vs1, d1', ds1, p1, q1, rfl, rfl, rfl, h1, r1⟩ := trodAll_cons r0
  obtain ⟨v2, vs2, d2', ds2, p2, q2, rfl, rfl, rfl, h2, r2⟩ := trodAll_cons r1
  obtain ⟨rfl, rfl, rfl⟩ := trodAll_nil r2
  obtain rfl : args = #[v0, v1, v2] := by cases args; simp_all
  obtain ⟨rfl, rfl⟩ := trodVars_none hV
  obtain ⟨s0, rfl, rfl, rfl, hs0⟩ := open_string Try.underlying9 (hval 0 9 v0 rfl rfl) h0
  have k1 := h1
  have lt1 : ∀ x ∈ p1, x.block < W.heap.size := by obtain ⟨m, hm⟩ := k1; exact DataW.trod_lt m _ _ _ hm
  obtain ⟨A1, n1, c1, rfl⟩ := okWide_slice Try.underlying22 (hval 1 22 v1 rfl rfl)
  obtain ⟨fuel1, hf1⟩ := h1
  obtain ⟨l1, hy1⟩ := arg_instrs (tb := 26) (eb := 5) Try.underlying22 Try.underlying30 (by kernel_rfl) (by kernel_rfl)
    (fun j hj => by rcases (by omega : j = 0 ∨ j = 1 ∨ j = 2 ∨ j = 3) with rfl | rfl | rfl | rfl <;> exact ⟨_, rfl, Try.underlying3⟩) ⟨_, rfl, rfl⟩ Try.underlying26 Try.underlying5 (by kernel_rfl) hf1
  have k2 := h2
  have lt2 : ∀ x ∈ p2, x.block < W.heap.size := by obtain ⟨m, hm⟩ := k2; exact DataW.trod_lt m _ _ _ hm
  obtain ⟨A2, n2, c2, rfl⟩ := okWide_slice Try.underlying31 (hval 2 31 v2 rfl rfl)
  obtain ⟨fuel2, hf2⟩ := h2
  obtain ⟨z2, hy2⟩ := arg_ints Try.underlying31 Try.underlying3 (by kernel_rfl) hf2
  clear hA0 hval0
  refine (intoPlays_any s0 _ l1 _ z2 hy1 (by have h := hy2; exact h) (by unfold maxLen at hs0; omega)).mono fun e W' ⟨he, hfr⟩ => ?_
  have bel : Below W.heap.size W W' := Fr0.below hfr
  subst he
  exact ⟨_, rfl, _, _, _, [], _, [], hW', trodAll_mk1 (shut_bool Try.underlying4 _), (trodAll_cons_mk (shut_string Try.underlying9 hs0) (trodAll_cons_mk (Below.trod laidOut (by kernel_rfl) (of_decide_eq_true (by kernel_rfl)) k1 bel lt1) (trodAll_cons_mk (Below.trod laidOut (by kernel_rfl) (of_decide_eq_true (by kernel_rfl)) k2 bel lt2) trodAll_mk0))), rfl, bel.frame _, fun h => by cases h⟩

theorem over : Rows.intoPlaysRow.holds Try.pinned (OpenSpec.ofChange Rows.intoPlaysSpec) :=
  OpenClaim.holds_of_wide 4 Try.f4 rfl rfl rfl rfl rfl rfl rfl ⟨rfl, rfl, rfl, rfl, rfl⟩ rfl rfl rfl rfl rfl (by kernel_rfl) Try.func4 (by kernel_rfl)
    (of_decide_eq_true (by kernel_rfl)) (by unfold Func.isWrapper; first | (rw [if_pos (by decide +kernel)]; kernel_rfl) | (rw [if_neg (by decide +kernel)]; exact ⟨rfl, rfl⟩))
    (fun os started H enc _ => lifted os started H enc)

theorem proved : Rows.IntoPlaysSaid := over
#print axioms proved
end IntoPlays
end Go.Proofs.Ytbfamnfhnjgllaa
