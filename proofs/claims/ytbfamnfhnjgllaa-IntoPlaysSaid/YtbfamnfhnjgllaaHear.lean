/- The contract of Hear. Conditions stand in the statement. -/
import Derived.Test.YtbfamnfhnjgllaaInto
import Derived.StillTailTactics
import Derived.Deep.RegionWith
import Derived.Deep.RegionLaw
import Derived.Deep.RegionHeld3
import Derived.Deep.DrawnRows
import Derived.Deep.AppendLies
namespace Go.Proofs.Ytbfamnfhnjgllaa
open Go.RowKit

set_option maxHeartbeats 1000000 in
theorem hear_any {p : Nat} {fv sv : Value} {l : List (Int × ByteArray)} {f : ByteArray → List UInt8 → ByteArray × Int} (hfv : AppFn fv f) {w : World} (h : InAt w p fv sv l) (hn : 0 < l.length) (hl : l.length ≤ 1000)
    (hs : ∀ x ∈ l, x.2.size ≤ 1000000) (old new ack trash : Int) (A : Option Addr) (c : Nat) (d : List UInt8) (hd : d.length ≤ 1000000) (hrd : Rd w 1 (.slice A d.length c) d.length (byts d)) (hdp : 0 < d.length → Value.blk (.slice A d.length c) ≠ some p) :
    Calls Try.prog 12 #[.pointer (some ⟨p, 0, none⟩), .agg #[.int .i64 old, .int .i64 new, .int .i64 ack, .int .i64 trash, .slice A d.length c]] w fun e w' =>
      ∃ sv', e = .returned (.tuple #[.bool (hear f l old new ack trash d).2.1, .int .i64 (hear f l old new ack trash d).2.2]) ∧ InAt w' p fv sv' (hear f l old new ack trash d).1 ∧ Fr1 p w w' := by
  obtain ⟨hb, hr, hap⟩ := h
  obtain ⟨fn, rfl, hbody, happ⟩ := hfv
  have hl63 := hr.le63
  have hp := hb.lt
  obtain ⟨A', c', rfl, hnc, _, _⟩ := hr.form
  obtain ⟨X, hX⟩ : ∃ X : Obj, X = .cells #[.int .i64 old, .int .i64 new, .int .i64 ack, .int .i64 trash, .slice A d.length c] 30 := ⟨_, rfl⟩
  have hf0 : Fr0 w (w.alloc X) := (Fr0.refl w).alloc X
  have hx : Blk (w.alloc X) w.heap.size (insV old new ack trash (.slice A d.length c)) 30 := by rw [hX]; exact Blk.new _ _ _
  have hT := Lib.hid (there_yes (hb.fr0 hf0) hn)
  have hM := Lib.hid (may_any old new ack trash A d.length c (w.alloc X))
  obtain ⟨e0, he0⟩ : ∃ e0, e0 = may old new ack trash d.length := ⟨_, rfl⟩
  rw [← he0] at hM
  have He0 := Lib.hid he0; clear he0
  have Hf0 := Lib.hid hf0; have Hx := Lib.hid hx; clear hf0 hx
  rw [hX] at Hf0 Hx hT hM
  clear hX X
  go_enter Try.func12, Try.ntmps12
  go_wp2_with (go_at_call 25; refine (hT.out).mono ?_; rintro e w' ⟨rfl, rfl⟩)
  refine (hM.out).mono ?_
  rintro e w1 ⟨rfl, hf1⟩
  have hx1 := Hx.out.fr0 hf1
  replace hf1 := Hf0.out.trans hf1
  clear hM hT Hx Hf0
  by_cases he : e0 = 0
  · have het : (e0 != 0) = false := by simp [he]
    obtain ⟨last, hlast⟩ : ∃ last, last = (l.getD (l.length - 1) (0, ⟨#[]⟩)).1 := ⟨_, rfl⟩
    have hb1 := hb.fr0 hf1
    have hr1 := hr.fr0 hf1
    obtain ⟨g, off, c2, hv, hic, hg, hc⟩ := hr1.cellAt (i := l.length - 1) (by omega)
    injection hv with hA _ hcc
    subst hA hcc
    obtain ⟨ha, hs'⟩ := hcells_at l (l.length - 1) (by omega)
    have c0 := hc 0 _ ha
    have c1 := hc 1 _ hs'
    have cp : w1.cell? ⟨p, 1, none⟩ = some (.slice (some ⟨g, off, none⟩) l.length c') := hb1.cell 1 rfl
    have hp1 := hb1.lt
    rw [← getD_at] at c0 c1
    rw [← hlast] at c0
    obtain ⟨lstr, hlstr⟩ : ∃ lstr, lstr = (l.getD (l.length - 1) (0, ⟨#[]⟩)).2 := ⟨_, rfl⟩
    rw [← hlstr] at c1
    clear hc ha hs' hlstr
    have Hlast := Lib.hid hlast; clear hlast
    have He := Lib.hid he; clear he
    have Hx1 := Lib.hid hx1; have Hb1 := Lib.hid hb1; have Hr1 := Lib.hid hr1; clear hx1 hb1 hr1
    obtain ⟨m, hm⟩ : ∃ m, l.length = m + 1 := ⟨l.length - 1, by omega⟩
    have Hm := Lib.hid hm
    rw [hm, show m + 1 - 1 = m from rfl] at c0 c1 hic
    rw [hm] at cp hl63
    simp only [Nat.add_zero] at c0
    clear hm hb hr
    go_wp2_with fail
    go_region
    go_wp2_with fail
    have hf2 : Fr0 w1 ((w1.alloc (Obj.cells #[.int .i64 last, .string lstr] 66)).drew) := ((Fr0.refl w1).alloc _).drew
    have hl2 : Blk ((w1.alloc (Obj.cells #[.int .i64 last, .string lstr] 66)).drew) w1.heap.size #[.int .i64 last, .string lstr] 66 := (Blk.new _ _ _).drew
    have hr2 := Hr1.out.fr0 hf2
    have hx2 := Hx1.out.fr0 hf2
    have hb2 := Hb1.out.fr0 hf2
    have hk := keep_fn hx2 hl2
    rw [← Hm.out]
    refine (indexFunc_any hr2 hk).mono ?_
    rintro e w3 ⟨rfl, hf3⟩
    replace hf2 := hf1.trans hf2
    replace hb2 := hb2.fr0 hf3
    replace hr2 := hr2.fr0 hf3
    replace hx2 := hx2.fr0 hf3
    replace hl2 := hl2.fr0 hf3
    replace hf2 := hf2.trans hf3
    clear hf3 hk c0 c1 cp het hic hg
    have hw3 := hf2.size
    obtain ⟨K, hK, hK1, -⟩ : ∃ K, ∃ h : K < l.length, idx (fun h => decide (h.1 ≥ trash) || h.1 == last) l = K ∧ True := by
      rcases idx_cases (fun h => decide (h.1 ≥ trash) || h.1 == last) l with ⟨k, h, h1, _⟩ | ⟨_, h⟩
      · exact ⟨k, h, h1, trivial⟩
      · exfalso
        have := h (l[l.length - 1]'(by omega)) (List.getElem_mem _)
        have e : last = (l[l.length - 1]'(by omega)).1 := by rw [Hlast.out, getD_at (by omega)]
        rw [e] at this
        simp at this
    rw [hK1]
    have HK1 := Lib.hid hK1
    clear hK1
    have cp3 : w3.cell? ⟨p, 1, none⟩ = some (.slice (some ⟨g, off, none⟩) l.length c') := hb2.cell 1 rfl
    have fp3 : w3.frozen? ⟨p, 1, none⟩ = false := hb2.free 1
    have Hd := hr2.dropAt (k := K) (by omega) (by omega)
    rw [hcells_drop] at Hd
    have HD := Lib.hid Hd; clear Hd
    have Hb2 := Lib.hid hb2; have Hr2 := Lib.hid hr2; have Hx2 := Lib.hid hx2; have Hl2 := Lib.hid hl2; clear hb2 hr2 hx2 hl2
    go_wp2_with fail
    refine (clone_held HD.out (hcells_one _) (by omega)).mono ?_
    rintro e w4 ⟨sv, rfl, hown, hf4⟩
    obtain ⟨A5, c5, rfl, hnc5, hcm5, hA5⟩ := own_form hown
    have hb4 := Hb2.out.fr0 hf4
    have hx4 := Hx2.out.fr0 hf4
    have hl4 := Hl2.out.fr0 hf4
    have hne := own_ne hown hb4 (by decide)
    have hf5 : Fr1 p w (w4.setCell ⟨p, 1, none⟩ (.slice A5 (l.length - K) c5)) := (Fr1.of0 (hf2.trans hf4)).set 1 _
    have hs5 : Fr1 p w4 (w4.setCell ⟨p, 1, none⟩ (.slice A5 (l.length - K) c5)) := (Fr1.refl p w4).set 1 _
    have own5 := own_fr hown hs5 hne
    have hb5 : Blk _ p #[.func (.func fn) #[] #[], .slice A5 (l.length - K) c5] _ := hb4.set 1 _
    have hx5 := hx4.fr1 hs5 (by omega)
    have hl5 := hl4.fr1 hs5 (by omega)
    have cp4 : w4.cell? ⟨p, 1, none⟩ = some (.slice (some ⟨g, off, none⟩) l.length c') := hb4.cell 1 rfl
    have fp4 : w4.frozen? ⟨p, 1, none⟩ = false := hb4.free 1
    obtain ⟨w5, hw5⟩ : ∃ w5, w5 = w4.setCell ⟨p, 1, none⟩ (.slice A5 (l.length - K) c5) := ⟨_, rfl⟩
    rw [← hw5] at hf5 own5 hb5 hx5 hl5
    have cx0 : w5.cell? ⟨w.heap.size, 1, none⟩ = some (.int .i64 new) := hx5.cell 1 rfl
    have cl0 : w5.cell? ⟨w1.heap.size, 0, none⟩ = some (.int .i64 last) := hl5.cell 0 rfl
    rw [hw5] at cx0 cl0
    have HW5 := Lib.hid hw5; clear hw5
    have H4 := Lib.hid (And.intro hf5 (And.intro own5 (And.intro hb5 (And.intro hx5 hl5))))
    clear hown hf4 hb4 hx4 hl4 hne hf5 own5 hb5 hx5 hl5 HD Hb2 Hr2 Hx2 Hl2 Hr1 Hb1 Hx1 hf2 hf1 hs5
    obtain ⟨M, hM⟩ : ∃ M, M = l.drop K := ⟨_, rfl⟩
    have hMl : M.length = l.length - K := by rw [hM, List.length_drop]
    have Hh : ∀ r, r = hear f l old new ack trash d → r = if new ≤ last then (M, false, 0) else if idx (fun h => h.1 == old) M < 0 then (M, false, 6) else
        if (f (M.getD (idx (fun h => h.1 == old) M).toNat (0, ⟨#[]⟩)).2 d).2 ≠ 0 then (M, false, (f (M.getD (idx (fun h => h.1 == old) M).toNat (0, ⟨#[]⟩)).2 d).2) else
        if 16 ≤ M.length then (M, false, 5) else (M ++ [(new, (f (M.getD (idx (fun h => h.1 == old) M).toNat (0, ⟨#[]⟩)).2 d).1)], true, 0) := by
      rintro r rfl
      unfold hear
      rw [if_neg (by rw [← He0.out, He.out]; simp)]
      simp only [← Hlast.out, HK1.out, Int.toNat_natCast, ← hM]
    rw [← hM, ← hMl] at H4
    rw [← hMl] at cx0 cl0 hnc5 HW5
    have HMl := Lib.hid hMl; have HM := Lib.hid hM
    rw [← hMl]
    clear hMl hM
    by_cases hnew : new ≤ last
    · go_wp2_with fail
      go_ret2
      have H := (Hh _ rfl).trans (if_pos hnew)
      obtain ⟨k1, k2, k3, k4, k5⟩ := H4.out
      rw [H, ← HW5.out]
      exact ⟨_, rfl, ⟨k3, Rd.of_own k2, TyB.of_own k2⟩, k1⟩
    · have Hh' := Lib.hid fun r hr => (Hh r hr).trans (if_neg hnew)
      clear Hh
      go_wp2_with fail
      rw [← HW5.out]
      obtain ⟨hf5, own5, hb5, hx5, hl5⟩ := H4.out
      refine (indexFunc_any (Rd.of_own own5) (at_fn hx5)).mono ?_
      rintro e w6 ⟨rfl, hf6⟩
      replace hf5 := hf5.then0 hf6
      replace hb5 := hb5.fr0 hf6
      replace hx5 := hx5.fr0 hf6
      replace own5 := own_fr own5 hf6 (fun _ _ h => h)
      clear HW5 H4 cx0 cl0 hl5 cp4 fp4 cp3 fp3 hf6
      rcases idx_cases (fun h => h.1 == old) M with ⟨k, hk, hk1, hk2⟩ | ⟨hk1, _⟩
      · rw [hk1] at Hh' ⊢
        have HH := Lib.hid fun r hr => (Hh'.out r hr).trans (if_neg (by omega))
        clear Hh' hk1
        have cp6 : w6.cell? ⟨p, 1, none⟩ = some (.slice A5 M.length c5) := hb5.cell 1 rfl
        have cp0 : w6.cell? ⟨p, 0, none⟩ = some (.func (.func fn) #[] #[]) := hb5.cell 0 rfl
        have cx4 : w6.cell? ⟨w.heap.size, 4, none⟩ = some (.slice A d.length c) := hx5.cell 4 rfl
        obtain ⟨g5, off5, c5', hv5, hkc, hg5, hc5⟩ := (Rd.of_own own5).cellAt hk
        injection hv5 with hA _ hcc
        subst hA hcc
        have ck := hc5 1 _ (hcells_at M k hk).2
        obtain ⟨s, hs1⟩ : ∃ s, s = M[k].2 := ⟨_, rfl⟩
        rw [← hs1] at ck
        have hH := Lib.hid (And.intro hf5 (And.intro hb5 (And.intro hx5 (And.intro own5 (And.intro hs1 hk2)))))
        have hr6 := hrd.fr1 hf5 hdp
        have hss : s.size ≤ 1000000 := by rw [hs1]; exact hs _ (List.mem_of_mem_drop (i := K) (by rw [← HM.out]; exact List.getElem_mem hk))
        have hC : Calls Try.prog fn #[.string s, .slice A d.length c] w6.drew fun e w7 => (e = .returned (.tuple #[.string (f s d).1, .int .i64 (f s d).2]) ∧ Fr0 w6.drew w7) ∧ w7.cell? ⟨p, 1, none⟩ = some (.slice (some ⟨g5, off5, none⟩) M.length c5) ∧ w7.cell? ⟨p, 0, none⟩ = some (.func (.func fn) #[] #[]) ∧
            w7.cell? ⟨w.heap.size, 4, none⟩ = some (.slice A d.length c) ∧ w7.cell? ⟨g5, off5 + k * 2 + 1, none⟩ = some (.string s) := by
          refine (happ s (.slice A d.length c) d w6.drew hss hd (hr6.fr0 ((Fr0.refl w6).drew))).mono ?_
          rintro e w7 ⟨he, hf7⟩
          have hf7' : Fr0 w6 w7 := ((Fr0.refl w6).drew).trans hf7
          have hb7 := hb5.fr0 hf7'
          refine ⟨⟨he, hf7⟩, hb7.cell 1 rfl, hb7.cell 0 rfl, (hx5.fr0 hf7').cell 4 rfl, ?_⟩
          obtain ⟨g6, off6, c6, hv6, _, _, hc6⟩ := ((Rd.of_own own5).fr0 hf7').cellAt hk
          injection hv6 with hA _ hcc
          injection hA with hA
          injection hA with hA1 hA2
          subst hA1 hA2
          rw [hs1]
          exact hc6 1 _ (hcells_at M k hk).2
        have HC := Lib.hid hC
        clear hf5 hb5 hx5 own5 hs1 hk2 hc5 hC hr6
        have k0 : (0 : Int) ≤ (k : Int) := by omega
        have k1 : (k : Int) < (M.length : Int) := by omega
        go_wp2_with fail
        go_region_held3 (fun w' => w'.cell? ⟨p, 1, none⟩ = some (.slice (some ⟨g5, off5, none⟩) M.length c5) ∧ w'.cell? ⟨p, 0, none⟩ = some (.func (.func fn) #[] #[]) ∧
            w'.cell? ⟨w.heap.size, 4, none⟩ = some (.slice A d.length c) ∧ w'.cell? ⟨g5, off5 + k * 2 + 1, none⟩ = some (.string s)) (go_keep) ((refine (HC.out).mono ?_; rintro e w7 ⟨⟨rfl, hf7⟩, s1, s2, s3, s4⟩))
        obtain ⟨hf5, hb5, hx5, own5, hs1, -⟩ := hH.out
        replace hf7 : Fr0 w6 w7 := ((Fr0.refl w6).drew).trans hf7
        have hf8 := hf5.then0 hf7
        have hb7 := hb5.fr0 hf7
        have hx7 := hx5.fr0 hf7
        have own7 := own_fr own5 hf7 (fun _ _ h => h)
        have hs2 : (M.getD (k : Int).toNat (0, ⟨#[]⟩)).2 = s := by rw [Int.toNat_natCast, getD_at hk, hs1]
        have H2 := HH.out
        rw [hs2] at H2
        have HH2 := Lib.hid H2
        clear HC hH HH H2 hf7 cp6 cp0 cx4 ck s2 s3 s4 hf5 hb5 hx5 own5 hs1 hs2 s1
        by_cases hr0 : (f s d).2 = 0
        · have hrt : ((f s d).2 != 0) = false := by simp [hr0]
          have HH3 := Lib.hid fun r hr => (HH2.out r hr).trans (if_neg (by simp [hr0]))
          clear HH2 hr0
          have cp7 : w7.cell? ⟨p, 1, none⟩ = some (.slice (some ⟨g5, off5, none⟩) M.length c5) := hb7.cell 1 rfl
          have fp7 : w7.frozen? ⟨p, 1, none⟩ = false := hb7.free 1
          have cx7 : w7.cell? ⟨w.heap.size, 1, none⟩ = some (.int .i64 new) := hx7.cell 1 rfl
          obtain ⟨S1, hS1⟩ : ∃ S1, S1 = (f s d).1 := ⟨_, rfl⟩
          rw [← hS1] at HH3 ⊢
          clear hS1
          by_cases hfull : 16 ≤ M.length
          · have HH4 := Lib.hid fun r hr => (HH3.out r hr).trans (if_pos hfull)
            clear HH3
            go_wp2_with fail
            go_ret2
            rw [HH4.out _ rfl]
            exact ⟨_, rfl, ⟨hb7, Rd.of_own own7, TyB.of_own own7⟩, hf8⟩
          · have HH4 := Lib.hid fun r hr => (HH3.out r hr).trans (if_neg hfull)
            clear HH3
            obtain ⟨i0, hi0, hz0, hz1, hz2⟩ := info_parts infoHeld
            have hne := own_ne own7 hb7 (by decide)
            have hne2 := own_ne own7 hx7 (by decide)
            have ag : (Value.slice (some ⟨g5, off5, none⟩) M.length c5).ownBlock ≠ some p := fun h => hne p h rfl
            have ax : (Value.slice (some ⟨g5, off5, none⟩) M.length c5).ownBlock ≠ some w.heap.size := fun h => hne2 _ h rfl
            have hp7 := hb7.lt
            have hx7' := hx7.lt
            have hg7 := (own_lt' own7 g5 rfl).2
            have hbase : w3.heap.size ≤ w7.heap.size := by have := (own_lt' own7 g5 rfl); omega
            have fz7 : ((w7.alloc (Obj.cells #[.int .i64 new, .string S1] 66)).drew).frozen? ⟨p, 1, none⟩ = false := (hb7.alloc _).free 1
            have cz7 : ((w7.alloc (Obj.cells #[.int .i64 new, .string S1] 66)).drew).cell? ⟨p, 1, none⟩ = some (.slice (some ⟨g5, off5, none⟩) M.length c5) := (hb7.alloc _).cell 1 rfl
            have H7 := Lib.hid (And.intro hf8 (And.intro hb7 hx7))
            clear hf8 hb7 hx7 hne hne2
            go_wp2_with fail
            go_region_law
              ((refine step_append_lies _ (by rfl) _ _ _ (by rfl) w3.heap.size 66 i0 _ 2 24 Try.underlying46 hi0 hz0 hz1 hz2 rfl (by omega) (.slice (some ⟨g5, off5, none⟩) M.length c5) M.length (hcells M) (by rfl) ((own7.alloc _).drew)
                  ⟨w7.heap.size, 0, none⟩ 1 1 [.int .i64 new, .string S1] (by rfl) (by rfl) (World.news_of_block (cs := #[.int .i64 new, .string S1]) (t := 66) (fr := (0, 0)) (heap_alloc_new w7 _)) (by simp [Value.oneCell'])
                  (by omega) (by unfold maxLen; omega) (by omega) (by simp; omega) (w7.heap.size + 1) (by simp) ?_; intro gg cap w9 hown1 hgrow hat hlt; have z1 := (hgrow.cell_far (a := ⟨p, 1, none⟩) (by simp; omega) (Ne.symm ag)).trans cz7; have z2 := (hgrow.frozen_far (a := ⟨p, 1, none⟩) (by simp; omega) (Ne.symm ag)).trans fz7))
            all_goals
              go_wp2_with fail
              go_ret2
              rw [HH4.out _ rfl]
              obtain ⟨hf8, hb7, hx7⟩ := H7.out
              have hb8 := (hb7.alloc (Obj.cells #[.int .i64 new, .string S1] 66)).drew
              have hg9 : Fr1 g5 _ w9 := Fr.grown (Fr1.refl g5 _) hgrow (fun k hk => .inl (by injection hk with hk; exact hk.symm))
              have hb9 := hb8.fr1 hg9 (fun h => ag (by rw [h]; rfl))
              have hne9 := own_ne hown1 hb9 (by decide)
              have own9 := ownsRow_setCell_other hown1 (a := ⟨p, 1, none⟩) (fun h => hne9 _ h rfl) (.slice (some ⟨gg, 0, none⟩) (M.length + 1) cap)
              refine ⟨_, rfl, ⟨hb9.set 1 _, ?_, TyB.of_own own9⟩, ?_⟩
              · have := Rd.of_own own9
                simpa [hcells] using this
              · exact Fr1.set (Fr.then (hf8.then0 (((Fr0.refl w7).alloc _).drew)) hg9 (fun i hi hl => by subst hi; have := (own_lt' own7 i rfl).1; omega)) 1 _
        · have hrt : ((f s d).2 != 0) = true := by simp [hr0]
          have HH3 := Lib.hid fun r hr => (HH2.out r hr).trans (if_pos (by simp [hr0]))
          clear HH2 hr0
          go_wp2_with fail
          go_ret2
          rw [HH3.out _ rfl]
          exact ⟨_, rfl, ⟨hb7, Rd.of_own own7, TyB.of_own own7⟩, hf8⟩
      · rw [hk1] at Hh' ⊢
        have HH := Lib.hid fun r hr => (Hh'.out r hr).trans (if_pos (by omega))
        clear Hh'
        go_wp2_with fail
        go_ret2
        rw [HH.out _ rfl]
        exact ⟨_, rfl, ⟨hb5, Rd.of_own own5, TyB.of_own own5⟩, hf5⟩
  · have het : (e0 != 0) = true := by simp [he]
    have Hh : hear f l old new ack trash d = (l, false, e0) := by unfold hear; rw [if_pos (by rw [← He0.out]; exact he), ← He0.out]
    have HH := Lib.hid Hh
    clear Hh he
    go_wp2_with fail
    go_ret2
    rw [HH.out]
    exact ⟨_, rfl, ⟨hb.fr0 hf1, hr.fr0 hf1, hap.fr0 hf1⟩, Fr1.of0 hf1⟩
end Go.Proofs.Ytbfamnfhnjgllaa
