/- The reference's hearer: contracts. Conditions stand in the statements. -/
import Derived.Test.YtbfamnfhnjgllaaRefMay
import Derived.Test.YtbfamnfhnjgllaaApply
import Derived.Test.YtbfamnfhnjgllaaHeld
import Derived.Deep.RegionWith
import Derived.Deep.RegionLaw
import Derived.Deep.RegionHeld3
import Derived.Deep.DrawnRows
import Derived.Deep.AppendLies
namespace Go.Proofs.Ytbfamnfhnjgllaa
open Go.RowKit

def scells (l : List ByteArray) : List Value := l.map fun x => .string x
theorem scells_len (l : List ByteArray) : (scells l).length = l.length * 1 := by simp [scells]
theorem scells_at (l : List ByteArray) (i : Nat) (hi : i < l.length) : (scells l)[i]? = some (.string l[i]) := by simp [scells, hi]
theorem scells_snoc (l : List ByteArray) (x : ByteArray) : scells (l ++ [x]) = scells l ++ [.string x] := by simp [scells]
theorem infoStr : (Try.prog.info? 9).map (fun i => (i.zero, i.size, i.bytes)) = some (some (.string ⟨#[]⟩), 1, 16) := by kernel_rfl

/-- The reference's hearer in memory. -/
structure RefAt (w : World) (p : Nat) (nv sv : Value) (l : List (Int × ByteArray)) : Prop where
  blk : Blk w p #[nv, sv] 44
  nums : Rd w 1 nv l.length (icells (l.map (·.1)))
  texts : Rd w 1 sv l.length (scells (l.map (·.2)))
  tyn : TyB w nv 3
  tys : TyB w sv 9
theorem RefAt.fr0 {w w' : World} {p : Nat} {nv sv : Value} {l : List (Int × ByteArray)} (h : RefAt w p nv sv l) (hf : Fr0 w w') : RefAt w' p nv sv l :=
  ⟨h.blk.fr0 hf, h.nums.fr0 hf, h.texts.fr0 hf, h.tyn.fr0 hf, h.tys.fr0 hf⟩
theorem RefAt.fr1 {w w' : World} {p b : Nat} {nv sv : Value} {l : List (Int × ByteArray)} {vs : Array Value} {t' : TypeId} (h : RefAt w p nv sv l) (hf : Fr1 b w w') (hb : Blk w b vs t') (h1 : 44 ≠ t') (h2 : 3 ≠ t') (h3 : 9 ≠ t') : RefAt w' p nv sv l :=
  ⟨h.blk.fr1 hf (h.blk.ne hb h1), h.nums.frT h.tyn hf hb h2, h.texts.frT h.tys hf hb h3, h.tyn.fr1 hf hb h2, h.tys.fr1 hf hb h3⟩

theorem refNew_any (s : ByteArray) (w : World) :
    Calls Try.prog 14 #[.string s] w fun e w' => ∃ p nv sv, e = .returned (.pointer (some ⟨p, 0, none⟩)) ∧ RefAt w' p nv sv [(0, s)] ∧ w.heap.size ≤ p ∧ p < w'.heap.size ∧ Fr0 w w' := by
  go_enter Try.func14, Try.ntmps14
  go_wp2
  go_ret
  have b1 := ((Blk.new w #[.int .i64 0] 3).alloc (.cells #[.string s] 9)).alloc (.cells #[.slice (some ⟨w.heap.size, 0, none⟩) 1 1, .slice (some ⟨w.heap.size + 1, 0, none⟩) 1 1] 44)
  have b2 := (Blk.new (w.alloc (.cells #[.int .i64 0] 3)) #[.string s] 9).alloc (.cells #[.slice (some ⟨w.heap.size, 0, none⟩) 1 1, .slice (some ⟨w.heap.size + 1, 0, none⟩) 1 1] 44)
  have b3 := Blk.new ((w.alloc (.cells #[.int .i64 0] 3)).alloc (.cells #[.string s] 9)) #[.slice (some ⟨w.heap.size, 0, none⟩) 1 1, .slice (some ⟨w.heap.size + 1, 0, none⟩) 1 1] 44
  simp only [World.size_alloc] at b2 b3
  refine ⟨w.heap.size + 2, .slice (some ⟨w.heap.size, 0, none⟩) 1 1, .slice (some ⟨w.heap.size + 1, 0, none⟩) 1 1, rfl, ⟨b3, ?_, ?_, ?_, ?_⟩, by omega, by simp, by repeat (first | exact Fr0.refl _ | refine Fr.drew ?_ | refine Fr.alloc ?_ _)⟩
  · exact Rd.of_own (own_of_block (base := 0) (k := 1) (cap := 1) b1 (Nat.zero_le _) (by omega) (by simp [maxLen]) rfl)
  · exact Rd.of_own (own_of_block (base := 0) (k := 1) (cap := 1) b2 (Nat.zero_le _) (by omega) (by simp [maxLen]) rfl)
  · intro g hg; cases hg; exact ⟨_, _, b1⟩
  · intro g hg; cases hg; exact ⟨_, _, b2⟩

/-- What the reference keeps, after k numbers were looked at. -/
def rk (l : List (Int × ByteArray)) (trash : Int) : Nat → List (Int × ByteArray)
  | 0 => []
  | k + 1 => rk l trash k ++ (if trash ≤ (l.getD k (0, ⟨#[]⟩)).1 ∨ k = l.length - 1 then [l.getD k (0, ⟨#[]⟩)] else [])
theorem rk_le (l : List (Int × ByteArray)) (trash : Int) (k : Nat) : (rk l trash k).length ≤ k := by
  induction k with
  | zero => simp [rk]
  | succ k ih => simp only [rk, List.length_append]; split <;> simp <;> omega

theorem rk_mem (l : List (Int × ByteArray)) (trash : Int) (k : Nat) (hk : k ≤ l.length) : ∀ x ∈ rk l trash k, x ∈ l := by
  induction k with
  | zero => intro x hx; simp [rk] at hx
  | succ k ih =>
    intro x hx
    simp only [rk, List.mem_append] at hx
    rcases hx with hx | hx
    · exact ih (by omega) x hx
    · split at hx
      · rw [List.mem_singleton] at hx
        rw [hx, getD_at (by omega)]
        exact List.getElem_mem _
      · cases hx

/-- What the reference's Hear leaves, and what it answers. -/
def rhear (l : List (Int × ByteArray)) (old new ack trash : Int) (d : List UInt8) : List (Int × ByteArray) × Bool × Int :=
  if may old new ack trash d.length ≠ 0 then (l, false, may old new ack trash d.length) else
  let m := rk l trash l.length
  if new ≤ (l.getD (l.length - 1) (0, ⟨#[]⟩)).1 then (m, false, 0) else
  let at_ := idx (fun h => h.1 == old) m
  if at_ < 0 then (m, false, 6) else
  let r := applyF (m.getD at_.toNat (0, ⟨#[]⟩)).2 d
  if r.2 ≠ 0 then (m, false, r.2) else
  if 16 ≤ m.length then (m, false, 5) else (m ++ [(new, r.1)], true, 0)

set_option maxRecDepth 100000 in
set_option maxHeartbeats 2000000 in
theorem refHear_any {p : Nat} {nv sv : Value} {l : List (Int × ByteArray)} {w : World} (h : RefAt w p nv sv l) (hn : 0 < l.length) (hl : l.length ≤ 1000)
    (hs : ∀ x ∈ l, x.2.size ≤ 1000000) (old new ack trash : Int) (A : Option Addr) (c : Nat) (d : List UInt8) (hd : d.length ≤ 1000000) (hrd : RdB w (.slice A d.length c) d) (hdp : 0 < d.length → Value.blk (.slice A d.length c) ≠ some p) :
    Calls Try.prog 16 #[.pointer (some ⟨p, 0, none⟩), .agg #[.int .i64 old, .int .i64 new, .int .i64 ack, .int .i64 trash, .slice A d.length c]] w fun e w' =>
      ∃ nv' sv', e = .returned (.tuple #[.bool (rhear l old new ack trash d).2.1, .int .i64 (rhear l old new ack trash d).2.2]) ∧ RefAt w' p nv' sv' (rhear l old new ack trash d).1 ∧ Fr1 p w w' := by
  obtain ⟨hb, hr, hrs, hapn, haps⟩ := h
  have hl63 := hr.le63
  have hp := hb.lt
  obtain ⟨An, cn, rfl, hncn, _, _⟩ := hr.form
  obtain ⟨As, cs, rfl, hncs, _, _⟩ := hrs.form
  obtain ⟨gn, on, rfl, hicn, hgn, -⟩ := hr.cellA (i := l.length - 1) (by omega)
  obtain ⟨gs, os, rfl, hics, hgs, -⟩ := hrs.cellA (i := l.length - 1) (by omega)
  obtain ⟨X, hX⟩ : ∃ X : Obj, X = .cells #[.int .i64 old, .int .i64 new, .int .i64 ack, .int .i64 trash, .slice A d.length c] 30 := ⟨_, rfl⟩
  have hf0 : Fr0 w (w.alloc X) := (Fr0.refl w).alloc X
  have hx : Blk (w.alloc X) w.heap.size #[.int .i64 old, .int .i64 new, .int .i64 ack, .int .i64 trash, .slice A d.length c] 30 := by rw [hX]; exact Blk.new _ _ _
  have hM := Lib.hid (rmay_any old new ack trash A d.length c (w.alloc X))
  obtain ⟨e0, he0⟩ : ∃ e0, e0 = may old new ack trash d.length := ⟨_, rfl⟩
  rw [← he0] at hM
  have He0 := Lib.hid he0; clear he0
  have Hf0 := Lib.hid hf0; have Hx := Lib.hid hx; clear hf0 hx
  rw [hX] at Hf0 Hx hM
  clear hX X
  go_enter Try.func16, Try.ntmps16
  go_wp2_with fail
  refine (hM.out).mono ?_
  rintro e w1 ⟨rfl, hf1⟩
  have hx1 := Hx.out.fr0 hf1
  replace hf1 := Hf0.out.trans hf1
  clear hM Hx Hf0
  have hb1 := hb.fr0 hf1
  have hr1 := hr.fr0 hf1
  have hrs1 := hrs.fr0 hf1
  by_cases he : e0 = 0
  · have het : (e0 != 0) = false := by simp [he]
    obtain ⟨last, hlast⟩ : ∃ last, last = (l.getD (l.length - 1) (0, ⟨#[]⟩)).1 := ⟨_, rfl⟩
    have cl : w1.cell? ⟨gn, on + (l.length - 1), none⟩ = some (.int .i64 last) := by
      have := hr1.cellG (i := l.length - 1) (j := 0) (u := .int .i64 last) (by omega) (by
        rw [hlast, getD_at (by omega)]
        simp [icells, show l.length - 1 < l.length from by omega])
      simpa using this
    have cp : w1.cell? ⟨p, 0, none⟩ = some (.slice (some ⟨gn, on, none⟩) l.length cn) := hb1.cell 0 rfl
    have hl1 : 1 ≤ (l.length : Int) := by omega
    have Hlast := Lib.hid hlast; have He := Lib.hid he
    have HB := Lib.hid (And.intro hb1 (And.intro hr1 (And.intro hrs1 hx1)))
    clear hlast he hb1 hr1 hrs1 hx1 hb hr hrs
    go_wp2_with fail
    go_quiet (fail)
    go_wp2_with fail
    obtain ⟨i3, hi3, hz30, hz31, hz32⟩ := info_parts infoInt
    obtain ⟨i9, hi9, hz90, hz91, hz92⟩ := info_parts infoStr
    go_loopw [7, 8, 10] (fun v7 v8 v10 wr => ∃ k : Nat, k ≤ l.length ∧ v10 = .int .i64 k ∧ wr.ownsRow w1.heap.size 3 1 v7 (rk l trash k).length (icells ((rk l trash k).map (·.1))) ∧
        wr.ownsRow w1.heap.size 9 1 v8 (rk l trash k).length (scells ((rk l trash k).map (·.2))) ∧ Fr0 w1 wr) (fun _ _ v10 _ => l.length - (intOf v10).toNat)
    case atStart => exact ⟨0, Nat.zero_le _, rfl, World.ownsRow_nil _ _ _ _, World.ownsRow_nil _ _ _ _, ((Fr0.refl _).drewN _)⟩
    case round =>
      obtain ⟨k, hk, rfl, own7, own8, hfk⟩ := hrel
      obtain ⟨hb1, hr1, hrs1, hx1⟩ := HB.out
      by_cases hlt : k < l.length
      · have hbk := hb1.fr0 hfk
        have cp0 : wr.cell? ⟨p, 0, none⟩ = some (.slice (some ⟨gn, on, none⟩) l.length cn) := hbk.cell 0 rfl
        have cp1 : wr.cell? ⟨p, 1, none⟩ = some (.slice (some ⟨gs, os, none⟩) l.length cs) := hbk.cell 1 rfl
        have cx3 : wr.cell? ⟨w.heap.size, 3, none⟩ = some (.int .i64 trash) := (hx1.fr0 hfk).cell 3 rfl
        have cn0 := (hr1.fr0 hfk).cellG (i := k) (j := 0) (u := .int .i64 l[k].1) hlt (by simp [icells, hlt])
        have cs0 := (hrs1.fr0 hfk).cellG (i := k) (j := 0) (u := .string l[k].2) hlt (by simp [scells, hlt])
        simp only [Nat.mul_one, Nat.add_zero] at cn0 cs0
        obtain ⟨nk, hnk⟩ : ∃ nk, nk = l[k].1 := ⟨_, rfl⟩
        obtain ⟨sk, hsk⟩ : ∃ sk, sk = l[k].2 := ⟨_, rfl⟩
        rw [← hnk] at cn0
        rw [← hsk] at cs0
        have hrkk : rk l trash (k + 1) = rk l trash k ++ (if trash ≤ nk ∨ k = l.length - 1 then [(nk, sk)] else []) := by
          show rk l trash k ++ _ = _
          rw [getD_at hlt, hnk, hsk]
        have hlek := rk_le l trash k
        obtain ⟨M, hM⟩ : ∃ M, M = rk l trash k := ⟨_, rfl⟩
        rw [← hM] at own7 own8 hlek hrkk
        have k0 : (0 : Int) ≤ (k : Int) := by omega
        have k1 : (k : Int) < (l.length : Int) := by omega
        have hwr := hfk.size
        have hww1 := hx1.lt
        have Hfk := Lib.hid hfk
        clear hnk hsk hM hbk hb1 hr1 hrs1 hx1 hfk hf1
        by_cases hc1 : trash ≤ nk
        · have hd1 : decide (trash ≤ nk) = true := by simp [hc1]
          rw [if_pos (.inl hc1)] at hrkk
          have HR := Lib.hid hrkk; clear hrkk
          go_wp2_with fail
          go_quiet (fail)
          change World.ownsRow (wr.drewN nq) _ _ _ _ _ _ at own7 own8
          change World.cell? (wr.drewN nq) _ = _ at cp0 cp1 cn0 cs0
          change _ ≤ (wr.drewN nq).heap.size at hwr
          replace Hfk := Lib.hid (Fr0.drewN Hfk.out nq)
          clear cx3
          generalize wr.drewN nq = wd at *
          go_wp2_with (first
            | (at_builtin; (refine wpList_append_own _ rfl (.tmp 60) (.tmp 68) 31 rfl w1.heap.size 3 i3 (.int .i64 0) 1 8 Try.underlying31 hi3 hz30 hz31 hz32 rfl (by decide) _ M.length (icells (M.map (·.1))) rfl (by exact own7.alloc _) ⟨wd.heap.size, 0, none⟩ 1 1 [.int .i64 nk] rfl rfl (World.news_of_block (cs := #[.int .i64 nk]) (t := 3) (fr := (0, 0)) (by exact heap_alloc_new wd _)) (by simp [Value.oneCell']) (by unfold maxLen; omega) (by omega) (by simp; omega) ?_); intro v7' w2 hown7 hgrow7 _; (have o8 := World.ownsRow.kept (own8.alloc (.cells #[.int .i64 nk] 3)) hgrow7 (own_two (own8.alloc (.cells #[.int .i64 nk] 3)) (own7.alloc (.cells #[.int .i64 nk] 3)) (by decide))); (have cc : ∀ a v, a.block < w.heap.size + 1 → wd.cell? a = some v → w2.cell? a = some v := fun a v ha hc => (hgrow7.cell_far a (by simp; omega) (fun e => by have := (own_lt' own7 _ e.symm).1; omega)).trans ((World.cell?_alloc_lt wd _ a (by omega)).trans hc)); (replace cp1 := cc _ _ (by simp; omega) cp1; replace cs0 := cc _ _ (by simp; omega) cs0); clear cc)
            | (at_builtin; (refine wpList_append_own _ rfl (.tmp 70) (.tmp 78) 42 rfl w1.heap.size 9 i9 (.string ⟨#[]⟩) 1 16 Try.underlying42 hi9 hz90 hz91 hz92 rfl (by decide) _ M.length (scells (M.map (·.2))) rfl (by exact o8.alloc _) ⟨w2.heap.size, 0, none⟩ 1 1 [.string sk] rfl rfl (World.news_of_block (cs := #[.string sk]) (t := 9) (fr := (0, 0)) (by exact heap_alloc_new w2 _)) (by simp [Value.oneCell']) (by unfold maxLen; omega) (by omega) (by have := hgrow7.size; simp at this ⊢; omega) ?_); intro v8' w3 hown8 hgrow8 _))
          have hsz2 := hgrow7.size
          have hsz3 := hgrow8.size
          simp only [World.size_alloc] at hsz2 hsz3
          have hend : w3.ownsRow w1.heap.size 3 1 v7' (rk l trash (k + 1)).length (icells ((rk l trash (k + 1)).map (·.1))) ∧ w3.ownsRow w1.heap.size 9 1 v8' (rk l trash (k + 1)).length (scells ((rk l trash (k + 1)).map (·.2))) ∧ Fr0 w1 w3 := by
            rw [HR.out]
            refine ⟨?_, ?_, ?_⟩
            · have h := World.ownsRow.kept (hown7.alloc (.cells #[.string sk] 9)) hgrow8 (own_two (hown7.alloc (.cells #[.string sk] 9)) (o8.alloc (.cells #[.string sk] 9)) (by decide))
              simpa [icells] using h
            · simpa [scells] using hown8
            · exact Fr.grown (Fr.alloc (Fr.grown (Fr.alloc Hfk.out _) hgrow7 (fun j hj => .inr (own_lt' own7 j hj).1)) _) hgrow8 (fun j hj => .inr (own_lt' o8 j hj).1)
          have HE := Lib.hid hend
          clear hend
          go_roundw
          case rel => first | exact ⟨k + 1, by omega, by go_num, HE.out⟩ | ((repeat apply Exists.intro); exact ⟨⟨k + 1, by omega, by go_num, HE.out⟩, rfl⟩)
          case measure => simp [intOf]; omega
        · have hd1 : decide (trash ≤ nk) = false := by simp; omega
          by_cases hc2 : k = l.length - 1
          · have hd2 : ((k : Int) == (l.length : Int) - 1) = true := by rw [beq_iff_eq]; omega
            rw [if_pos (.inr hc2)] at hrkk
            clear hc2
            have HR := Lib.hid hrkk; clear hrkk
            go_wp2_with fail
            go_quiet (fail)
            change World.ownsRow (wr.drewN nq) _ _ _ _ _ _ at own7 own8
            change World.cell? (wr.drewN nq) _ = _ at cp0 cp1 cn0 cs0
            change _ ≤ (wr.drewN nq).heap.size at hwr
            replace Hfk := Lib.hid (Fr0.drewN Hfk.out nq)
            clear cx3
            generalize wr.drewN nq = wd at *
            go_wp2_with (first
              | (at_builtin; (refine wpList_append_own _ rfl (.tmp 60) (.tmp 68) 31 rfl w1.heap.size 3 i3 (.int .i64 0) 1 8 Try.underlying31 hi3 hz30 hz31 hz32 rfl (by decide) _ M.length (icells (M.map (·.1))) rfl (by exact own7.alloc _) ⟨wd.heap.size, 0, none⟩ 1 1 [.int .i64 nk] rfl rfl (World.news_of_block (cs := #[.int .i64 nk]) (t := 3) (fr := (0, 0)) (by exact heap_alloc_new wd _)) (by simp [Value.oneCell']) (by unfold maxLen; omega) (by omega) (by simp; omega) ?_); intro v7' w2 hown7 hgrow7 _; (have o8 := World.ownsRow.kept (own8.alloc (.cells #[.int .i64 nk] 3)) hgrow7 (own_two (own8.alloc (.cells #[.int .i64 nk] 3)) (own7.alloc (.cells #[.int .i64 nk] 3)) (by decide))); (have cc : ∀ a v, a.block < w.heap.size + 1 → wd.cell? a = some v → w2.cell? a = some v := fun a v ha hc => (hgrow7.cell_far a (by simp; omega) (fun e => by have := (own_lt' own7 _ e.symm).1; omega)).trans ((World.cell?_alloc_lt wd _ a (by omega)).trans hc)); (replace cp1 := cc _ _ (by simp; omega) cp1; replace cs0 := cc _ _ (by simp; omega) cs0); clear cc)
              | (at_builtin; (refine wpList_append_own _ rfl (.tmp 70) (.tmp 78) 42 rfl w1.heap.size 9 i9 (.string ⟨#[]⟩) 1 16 Try.underlying42 hi9 hz90 hz91 hz92 rfl (by decide) _ M.length (scells (M.map (·.2))) rfl (by exact o8.alloc _) ⟨w2.heap.size, 0, none⟩ 1 1 [.string sk] rfl rfl (World.news_of_block (cs := #[.string sk]) (t := 9) (fr := (0, 0)) (by exact heap_alloc_new w2 _)) (by simp [Value.oneCell']) (by unfold maxLen; omega) (by omega) (by have := hgrow7.size; simp at this ⊢; omega) ?_); intro v8' w3 hown8 hgrow8 _))
            have hsz2 := hgrow7.size
            have hsz3 := hgrow8.size
            simp only [World.size_alloc] at hsz2 hsz3
            have hend : w3.ownsRow w1.heap.size 3 1 v7' (rk l trash (k + 1)).length (icells ((rk l trash (k + 1)).map (·.1))) ∧ w3.ownsRow w1.heap.size 9 1 v8' (rk l trash (k + 1)).length (scells ((rk l trash (k + 1)).map (·.2))) ∧ Fr0 w1 w3 := by
              rw [HR.out]
              refine ⟨?_, ?_, ?_⟩
              · have h := World.ownsRow.kept (hown7.alloc (.cells #[.string sk] 9)) hgrow8 (own_two (hown7.alloc (.cells #[.string sk] 9)) (o8.alloc (.cells #[.string sk] 9)) (by decide))
                simpa [icells] using h
              · simpa [scells] using hown8
              · exact Fr.grown (Fr.alloc (Fr.grown (Fr.alloc Hfk.out _) hgrow7 (fun j hj => .inr (own_lt' own7 j hj).1)) _) hgrow8 (fun j hj => .inr (own_lt' o8 j hj).1)
            have HE := Lib.hid hend
            clear hend
            go_roundw
            case rel => first | exact ⟨k + 1, by omega, by go_num, HE.out⟩ | ((repeat apply Exists.intro); exact ⟨⟨k + 1, by omega, by go_num, HE.out⟩, rfl⟩)
            case measure => simp [intOf]; omega
          · have hd2 : ((k : Int) == (l.length : Int) - 1) = false := by rw [beq_eq_false_iff_ne]; omega
            rw [if_neg (by omega), List.append_nil] at hrkk
            have HR := Lib.hid hrkk; clear hrkk
            have HE := Lib.hid (And.intro own7 own8)
            go_wp2_with fail
            go_quiet (fail)
            go_wp2_with fail
            go_roundw
            case rel => first | exact ⟨k + 1, by omega, by go_num, by rw [HR.out]; exact HE.out.1, by rw [HR.out]; exact HE.out.2, Fr0.drewN Hfk.out _⟩ | ((repeat apply Exists.intro); exact ⟨⟨k + 1, by omega, by go_num, by rw [HR.out]; exact HE.out.1, by rw [HR.out]; exact HE.out.2, Fr0.drewN Hfk.out _⟩, rfl⟩)
            case measure => simp [intOf]; omega
      · have : k = l.length := by omega
        subst this
        obtain ⟨A7, c7, rfl, hn7, hm7, hA7⟩ := own_form own7
        obtain ⟨A8, c8, rfl, hn8, hm8, hA8⟩ := own_form own8
        have hbk := hb1.fr0 hfk
        have hxk := hx1.fr0 hfk
        have cp0 : wr.cell? ⟨p, 0, none⟩ = some (.slice (some ⟨gn, on, none⟩) l.length cn) := hbk.cell 0 rfl
        have cp1 : wr.cell? ⟨p, 1, none⟩ = some (.slice (some ⟨gs, os, none⟩) l.length cs) := hbk.cell 1 rfl
        have fp0 : wr.frozen? ⟨p, 0, none⟩ = false := hbk.free 0
        have fp1 : wr.frozen? ⟨p, 1, none⟩ = false := hbk.free 1
        obtain ⟨M, hM⟩ : ∃ M, M = rk l trash l.length := ⟨_, rfl⟩
        rw [← hM] at own7 own8 hn7 hn8 ⊢
        have hMl : M.length ≤ 1000 := by rw [hM]; have := rk_le l trash l.length; omega
        have n7 := own_ne own7 hbk (by decide)
        have n8 := own_ne own8 hbk (by decide)
        have ap7 := own_apart own7 hbk (by decide)
        have ap8 := own_apart own8 hbk (by decide)
        have hs1 : Fr1 p wr ((wr.setCell ⟨p, 0, none⟩ (.slice A7 M.length c7)).setCell ⟨p, 1, none⟩ (.slice A8 M.length c8)) := ((Fr1.refl p wr).set 0 _).set 1 _
        have hb3 := (hbk.set 0 (.slice A7 M.length c7)).set 1 (.slice A8 M.length c8)
        have own7' := own_fr own7 hs1 n7
        have own8' := own_fr own8 hs1 n8
        have hx3 := hxk.fr1 hs1 (by omega)
        have hf3 : Fr1 p w _ := (Fr1.of0 (hf1.trans hfk)).trans hs1
        have cx1 : ((wr.setCell ⟨p, 0, none⟩ (.slice A7 M.length c7)).setCell ⟨p, 1, none⟩ (.slice A8 M.length c8)).cell? ⟨w.heap.size, 1, none⟩ = some (.int .i64 new) := hx3.cell 1 rfl
        have HM := Lib.hid hM
        have HA := Lib.hid (And.intro hb3 (And.intro own7' (And.intro own8' (And.intro hx3 hf3))))
        clear hM hbk hxk hb1 hr1 hrs1 hx1 hfk own7 own8 own7' own8' hx3 hf3 hb3 hs1 n7 n8
        have Hh : ∀ r, r = rhear l old new ack trash d → r = if new ≤ last then (M, false, 0) else if idx (fun h => h.1 == old) M < 0 then (M, false, 6) else
            if (applyF (M.getD (idx (fun h => h.1 == old) M).toNat (0, ⟨#[]⟩)).2 d).2 ≠ 0 then (M, false, (applyF (M.getD (idx (fun h => h.1 == old) M).toNat (0, ⟨#[]⟩)).2 d).2) else
            if 16 ≤ M.length then (M, false, 5) else (M ++ [(new, (applyF (M.getD (idx (fun h => h.1 == old) M).toNat (0, ⟨#[]⟩)).2 d).1)], true, 0) := by
          rintro r rfl
          unfold rhear
          rw [if_neg (by rw [← He0.out, He.out]; simp)]
          simp only [← Hlast.out, ← HM.out]
        obtain ⟨w3, hw3⟩ : ∃ w3, w3 = ((wr.setCell ⟨p, 0, none⟩ (.slice A7 M.length c7)).setCell ⟨p, 1, none⟩ (.slice A8 M.length c8)) := ⟨_, rfl⟩
        rw [← hw3] at HA
        have Hw3 := Lib.hid hw3; clear hw3
        by_cases hnew : new ≤ last
        · have HH := Lib.hid fun r hr => (Hh r hr).trans (if_pos hnew)
          clear Hh
          go_wp2_with fail
          go_ret2
          rw [HH.out _ rfl, ← Hw3.out]
          obtain ⟨hb3, o7, o8, hx3, hf3⟩ := HA.out
          exact ⟨_, _, rfl, ⟨hb3, by simpa using Rd.of_own o7, by simpa using Rd.of_own o8, TyB.of_own o7, TyB.of_own o8⟩, hf3⟩
        · have Hh' := Lib.hid fun r hr => (Hh r hr).trans (if_neg hnew)
          clear Hh
          go_wp2_with fail
          rw [← Hw3.out]
          clear Hw3 cp0 cp1 fp0 fp1 cx1 cl cp
          go_loopw [11] (fun v11 wr => ∃ k : Nat, k ≤ M.length ∧ v11 = .int .i64 k ∧ Fr0 w3 wr ∧ Hid (∀ x ∈ M.take k, (x.1 == old) = false)) (fun v11 _ => M.length - (intOf v11).toNat)
          case atStart => exact ⟨0, Nat.zero_le _, rfl, Fr0.refl _, by intro x hx; simp at hx⟩
          case round =>
            obtain ⟨k, hk, rfl, hfk, hno⟩ := hrel
            obtain ⟨hb3, o7, o8, hx3, hf3⟩ := HA.out
            by_cases hlt : k < M.length
            · have r7 := (Rd.of_own o7).fr0 hfk
              have r8 := (Rd.of_own o8).fr0 hfk
              obtain ⟨g7, f7, rfl, hi7, hg7, hc7⟩ := r7.cellA (i := k) hlt
              obtain ⟨g8, f8, rfl, hi8, hg8, hc8⟩ := r8.cellA (i := k) hlt
              have e7 := hc7 0 (.int .i64 M[k].1) (by simp [icells, hlt])
              have e8 := hc8 0 (.string M[k].2) (by simp [scells, hlt])
              simp only [Nat.mul_one, Nat.add_zero] at e7 e8
              have cx0 : wr.cell? ⟨w.heap.size, 0, none⟩ = some (.int .i64 old) := (hx3.fr0 hfk).cell 0 rfl
              have cx4 : wr.cell? ⟨w.heap.size, 4, none⟩ = some (.slice A d.length c) := (hx3.fr0 hfk).cell 4 rfl
              obtain ⟨nk, hnk⟩ : ∃ nk, nk = M[k].1 := ⟨_, rfl⟩
              obtain ⟨sk, hsk⟩ : ∃ sk, sk = M[k].2 := ⟨_, rfl⟩
              rw [← hnk] at e7
              rw [← hsk] at e8
              have k0 : (0 : Int) ≤ (k : Int) := by omega
              have k1 : (k : Int) < (M.length : Int) := by omega
              have Hnk := Lib.hid hnk; have Hsk := Lib.hid hsk
              have HC := Lib.hid (And.intro hb3 (And.intro o7 (And.intro o8 (And.intro hx3 hf3))))
              have Hfk := Lib.hid hfk
              clear hc7 hc8 hnk hsk hb3 o7 o8 hx3 hf3 r7 r8 hfk
              by_cases hq : nk = old
              · have hqb : (nk != old) = false := by simp [hq]
                have hidx := idx_found (f := fun h => h.1 == old) hlt hno.out (by rw [← Hnk.out]; simpa using hq)
                have hH := fun r hr => (Hh'.out r hr).trans (if_neg (by rw [hidx]; omega))
                rw [hidx] at hH
                rw [Int.toNat_natCast, getD_at hlt, ← Hsk.out] at hH
                have HH := Lib.hid hH
                have hss : sk.size ≤ 1000000 := by
                  rw [Hsk.out]
                  exact hs _ (rk_mem l trash _ (Nat.le_refl _) _ (by rw [← HM.out]; exact List.getElem_mem hlt))
                clear hno hq hidx hH Hh'
                go_wp2_with fail
                go_quiet (fail)
                change World.cell? (wr.drewN nq) _ = _ at e7 e8 cx0 cx4
                change _ < (wr.drewN nq).heap.size at hg7 hg8
                replace Hfk := Lib.hid (Fr0.drewN Hfk.out nq)
                generalize wr.drewN nq = wd at *
                have hrdd : RdB wd (.slice A d.length c) d := (hrd.fr1 HC.out.2.2.2.2 hdp).fr0 Hfk.out
                have hC : Calls Try.prog 13 #[.string sk, .slice A d.length c] wd.drew fun e w4 => (e = .returned (.tuple #[.string (applyF sk d).1, .int .i64 (applyF sk d).2]) ∧ Fr0 wd.drew w4) ∧ w4.cell? ⟨g8, f8 + k, none⟩ = some (.string sk) ∧ w4.cell? ⟨w.heap.size, 4, none⟩ = some (.slice A d.length c) := by
                  refine (apply_call sk (.slice A d.length c) d wd.drew hss hd (hrdd.fr0 ((Fr0.refl wd).drew))).mono ?_
                  rintro e w4 ⟨he, hf4⟩
                  have hf4' : Fr0 wd w4 := ((Fr0.refl wd).drew).trans hf4
                  exact ⟨⟨he, hf4⟩, hf4'.cell e8, hf4'.cell cx4⟩
                have HCC := Lib.hid hC
                clear hC hrdd e7 cx0 hqb
                go_wp2_with fail
                go_region_held3 (fun w' => w'.cell? ⟨g8, f8 + k, none⟩ = some (.string sk) ∧ w'.cell? ⟨w.heap.size, 4, none⟩ = some (.slice A d.length c)) (go_keep) ((go_at_call 13; refine (HCC.out).mono ?_; rintro e w4 ⟨⟨rfl, hf4⟩, s1, s2⟩))
                replace Hfk := Lib.hid (Hfk.out.trans (((Fr0.refl wd).drew).trans hf4))
                clear HCC hf4 s1 s2 e8 cx4
                by_cases hr0 : (applyF sk d).2 = 0
                · have hrt : ((applyF sk d).2 != 0) = false := by simp [hr0]
                  have HH2 := Lib.hid fun r hr => (HH.out r hr).trans (if_neg (by simp [hr0]))
                  clear HH hr0
                  obtain ⟨S1, hS1⟩ : ∃ S1, S1 = (applyF sk d).1 := ⟨_, rfl⟩
                  rw [← hS1] at HH2 ⊢
                  clear hS1
                  by_cases hfull : 16 ≤ M.length
                  · have HH3 := Lib.hid fun r hr => (HH2.out r hr).trans (if_pos hfull)
                    clear HH2
                    go_wp2_with fail
                    go_ret2
                    rw [HH3.out _ rfl]
                    obtain ⟨hb3, o7, o8, hx3, hf3⟩ := HC.out
                    exact ⟨_, _, rfl, ⟨hb3.fr0 Hfk.out, by simpa using (Rd.of_own o7).fr0 Hfk.out, by simpa using (Rd.of_own o8).fr0 Hfk.out, (TyB.of_own o7).fr0 Hfk.out, (TyB.of_own o8).fr0 Hfk.out⟩, hf3.then0 Hfk.out⟩
                  · have HH3 := Lib.hid fun r hr => (HH2.out r hr).trans (if_neg hfull)
                    clear HH2
                    go_wp2_with fail
                    obtain ⟨hb3, o7, o8, hx3, hf3⟩ := HC.out
                    have hb4 : Blk w4 p #[.slice (some ⟨g7, f7, none⟩) M.length c7, .slice (some ⟨g8, f8, none⟩) M.length c8] 44 := hb3.fr0 Hfk.out
                    have hx4 := hx3.fr0 Hfk.out
                    have r7 := (Rd.of_own o7).fr0 Hfk.out
                    have r8 := (Rd.of_own o8).fr0 Hfk.out
                    have hf4 : Fr1 p w w4 := hf3.then0 Hfk.out
                    have cp40 : w4.cell? ⟨p, 0, none⟩ = some (.slice (some ⟨g7, f7, none⟩) M.length c7) := hb4.cell 0 rfl
                    have cx41 : w4.cell? ⟨w.heap.size, 1, none⟩ = some (.int .i64 new) := hx4.cell 1 rfl
                    have hp4 := hb4.lt
                    have hx4l := hx4.lt
                    have O1 : ((w4.alloc (.cells #[] 3)).drew).ownsRow w4.heap.size 3 1 (.slice (some ⟨w4.heap.size, 0, none⟩) 0 0) 0 [] := own_empty (heap_alloc_new w4 _) (Nat.le_refl _)
                    have O2 : (((w4.alloc (.cells #[] 3)).alloc (.cells #[.int .i64 new] 3)).drew).ownsRow w4.heap.size 3 1 (.slice (some ⟨w4.heap.size, 0, none⟩) 0 0) 0 [] := (own_empty (heap_alloc_new w4 _) (Nat.le_refl _) : (w4.alloc (.cells #[] 3)).ownsRow w4.heap.size 3 1 (.slice (some ⟨w4.heap.size, 0, none⟩) 0 0) 0 []).alloc _
                    have O3 : (((w4.alloc (.cells #[.int .i64 new] 3)).alloc (.cells #[] 3)).drew).ownsRow w4.heap.size 3 1 (.slice (some ⟨w4.heap.size + 1, 0, none⟩) 0 0) 0 [] := own_empty (by have := heap_alloc_new (w4.alloc (.cells #[.int .i64 new] 3)) (.cells #[] 3); simp only [World.size_alloc] at this; exact this) (by omega)
                    have F1 : Fr0 w4 ((w4.alloc (.cells #[] 3)).drew) := ((Fr0.refl w4).alloc _).drew
                    have F2 : Fr0 w4 (((w4.alloc (.cells #[] 3)).alloc (.cells #[.int .i64 new] 3)).drew) := (((Fr0.refl w4).alloc _).alloc _).drew
                    have F3 : Fr0 w4 (((w4.alloc (.cells #[.int .i64 new] 3)).alloc (.cells #[] 3)).drew) := (((Fr0.refl w4).alloc _).alloc _).drew
                    have X2 : (((w4.alloc (.cells #[] 3)).alloc (.cells #[.int .i64 new] 3)).drew).heap[w4.heap.size + 1]? = some (.cells #[.int .i64 new] 3 (0, 0)) := by have := heap_alloc_new (w4.alloc (.cells #[] 3)) (.cells #[.int .i64 new] 3); simp only [World.size_alloc] at this; exact this
                    have X3 : (((w4.alloc (.cells #[.int .i64 new] 3)).alloc (.cells #[] 3)).drew).heap[w4.heap.size]? = some (.cells #[.int .i64 new] 3 (0, 0)) := (Blk.new w4 #[.int .i64 new] 3).alloc _
                    have HP := Lib.hid (And.intro hb4 (And.intro hx4 (And.intro r7 (And.intro r8 hf4))))
                    have N1 := (r7.fr0 F1).news
                    have N2 := (r7.fr0 F2).news
                    have N3 := (r7.fr0 F3).news
                    have NX : ∀ w5 : World, ∀ (j : Nat) (u : Value), [Value.int .i64 new][j]? = some u → (w5.alloc (.cells #[.int .i64 new] 3)).cell? ((⟨w5.heap.size, 0, none⟩ : Addr).add j) = some u := fun w5 => World.news_of_block (cs := #[.int .i64 new]) (heap_alloc_new w5 _)
                    have HO := Lib.hid (And.intro O1 (And.intro O2 (And.intro O3 (And.intro F1 (And.intro F2 (And.intro F3 (And.intro X2 (And.intro X3 (And.intro N1 (And.intro N2 (And.intro N3 NX)))))))))))
                    have hml : 0 < M.length := by omega
                    clear hb3 o7 o8 hx3 hf3 hb4 hx4 r7 r8 hf4 O1 O2 O3 F1 F2 F3 X2 X3 N1 N2 N3 NX
                    go_region_law
                      ((first
                        | (have _q := hown5; (first
                          | (refine step_append_lies _ (by rfl) (.tmp 124) (.tmp 127) 31 (by rfl) w4.heap.size 3 i3 (.int .i64 0) 1 8 Try.underlying31 hi3 hz30 hz31 hz32 rfl (by omega) (.slice (some ⟨g5, 0, none⟩) M.length cap5) M.length (icells (M.map (·.1))) (by rfl) ?_ ⟨w5.heap.size, 0, none⟩ 1 1 [.int .i64 new] ?_ rfl ?_ (by simp [Value.oneCell']) (by omega) (by unfold maxLen; omega) (by omega) (by first | omega | (simp; omega) | simp) _ rfl ?_; (with_reducible exact hown5.alloc _); (rfl); (with_reducible exact HO.out.2.2.2.2.2.2.2.2.2.2.2 w5); intro g6 cap6 w6 hown6 hgrow6 hat6 hlt6; have hF6 : Fr0 w4 w6 := Fr.grown (hF5.alloc _) hgrow6 (fun j hj => .inr (own_lt' hown5 j hj).1); have z1 := hF6.cell cp40; have z2 := (HP.out.1.fr0 hF6).free 0)
                          | (refine step_append_lies _ (by rfl) (.tmp 124) (.tmp 127) 31 (by rfl) w4.heap.size 3 i3 (.int .i64 0) 1 8 Try.underlying31 hi3 hz30 hz31 hz32 rfl (by omega) (.slice (some ⟨g5, 0, none⟩) M.length cap5) M.length (icells (M.map (·.1))) (by rfl) ?_ ⟨w4.heap.size + 1, 0, none⟩ 1 1 [.int .i64 new] ?_ rfl ?_ (by simp [Value.oneCell']) (by omega) (by unfold maxLen; omega) (by omega) (by first | omega | (simp; omega) | simp) _ rfl ?_; (with_reducible exact hown5); (rfl); (with_reducible exact nx); intro g6 cap6 w6 hown6 hgrow6 hat6 hlt6; have hF6 : Fr0 w4 w6 := Fr.grown hF5 hgrow6 (fun j hj => .inr (own_lt' hown5 j hj).1); have z1 := hF6.cell cp40; have z2 := (HP.out.1.fr0 hF6).free 0)
                          | (refine step_append_lies _ (by rfl) (.tmp 124) (.tmp 127) 31 (by rfl) w4.heap.size 3 i3 (.int .i64 0) 1 8 Try.underlying31 hi3 hz30 hz31 hz32 rfl (by omega) (.slice (some ⟨g5, 0, none⟩) M.length cap5) M.length (icells (M.map (·.1))) (by rfl) ?_ ⟨w4.heap.size, 0, none⟩ 1 1 [.int .i64 new] ?_ rfl ?_ (by simp [Value.oneCell']) (by omega) (by unfold maxLen; omega) (by omega) (by first | omega | (simp; omega) | simp) _ rfl ?_; (with_reducible exact hown5); (rfl); (with_reducible exact nx); intro g6 cap6 w6 hown6 hgrow6 hat6 hlt6; have hF6 : Fr0 w4 w6 := Fr.grown hF5 hgrow6 (fun j hj => .inr (own_lt' hown5 j hj).1); have z1 := hF6.cell cp40; have z2 := (HP.out.1.fr0 hF6).free 0)))
                        | (refine step_append_lies _ (by rfl) (.tmp 122) (.tmp 123) 31 (by rfl) w4.heap.size 3 i3 (.int .i64 0) 1 8 Try.underlying31 hi3 hz30 hz31 hz32 rfl (by omega) (.slice (some ⟨w4.heap.size, 0, none⟩) 0 0) 0 [] (by rfl) ?_ ⟨g7, f7, none⟩ M.length c7 (icells (M.map (·.1))) (by rfl) (by simp [icells]) ?_ (by intro u hu; simp only [icells, List.mem_map] at hu; obtain ⟨_, _, rfl⟩ := hu; rfl) hml (by unfold maxLen; omega) (by omega) (by first | omega | (simp; omega) | simp) _ rfl ?_; (with_reducible exact HO.out.1); (with_reducible exact HO.out.2.2.2.2.2.2.2.2.1); intro g5 cap5 w5 hown5 hgrow5 hat5 hlt5; simp only [Nat.zero_add, List.nil_append] at hown5; have hF5 : Fr0 w4 w5 := Fr.grown HO.out.2.2.2.1 hgrow5 (fun j hj => .inr (by cases hj; first | exact Nat.le_refl _ | exact Nat.le_succ _)); have y1 := hF5.cell cx41; have hw5 := hF5.size)
                        | (refine step_append_lies _ (by rfl) (.tmp 122) (.tmp 123) 31 (by rfl) w4.heap.size 3 i3 (.int .i64 0) 1 8 Try.underlying31 hi3 hz30 hz31 hz32 rfl (by omega) (.slice (some ⟨w4.heap.size, 0, none⟩) 0 0) 0 [] (by rfl) ?_ ⟨g7, f7, none⟩ M.length c7 (icells (M.map (·.1))) (by rfl) (by simp [icells]) ?_ (by intro u hu; simp only [icells, List.mem_map] at hu; obtain ⟨_, _, rfl⟩ := hu; rfl) hml (by unfold maxLen; omega) (by omega) (by first | omega | (simp; omega) | simp) _ rfl ?_; (with_reducible exact HO.out.2.1); (with_reducible exact HO.out.2.2.2.2.2.2.2.2.2.1); intro g5 cap5 w5 hown5 hgrow5 hat5 hlt5; simp only [Nat.zero_add, List.nil_append] at hown5; have hF5 : Fr0 w4 w5 := Fr.grown HO.out.2.2.2.2.1 hgrow5 (fun j hj => .inr (by cases hj; first | exact Nat.le_refl _ | exact Nat.le_succ _)); have y1 := hF5.cell cx41; have hw5 := hF5.size; have nx := World.news_of_block (cs := #[.int .i64 new]) ((hgrow5.block (w4.heap.size + 1) (by simp) (by simp [Value.ownBlock])).trans HO.out.2.2.2.2.2.2.1))
                        | (refine step_append_lies _ (by rfl) (.tmp 122) (.tmp 123) 31 (by rfl) w4.heap.size 3 i3 (.int .i64 0) 1 8 Try.underlying31 hi3 hz30 hz31 hz32 rfl (by omega) (.slice (some ⟨w4.heap.size + 1, 0, none⟩) 0 0) 0 [] (by rfl) ?_ ⟨g7, f7, none⟩ M.length c7 (icells (M.map (·.1))) (by rfl) (by simp [icells]) ?_ (by intro u hu; simp only [icells, List.mem_map] at hu; obtain ⟨_, _, rfl⟩ := hu; rfl) hml (by unfold maxLen; omega) (by omega) (by first | omega | (simp; omega) | simp) _ rfl ?_; (with_reducible exact HO.out.2.2.1); (with_reducible exact HO.out.2.2.2.2.2.2.2.2.2.2.1); intro g5 cap5 w5 hown5 hgrow5 hat5 hlt5; simp only [Nat.zero_add, List.nil_append] at hown5; have hF5 : Fr0 w4 w5 := Fr.grown HO.out.2.2.2.2.2.1 hgrow5 (fun j hj => .inr (by cases hj; first | exact Nat.le_refl _ | exact Nat.le_succ _)); have y1 := hF5.cell cx41; have hw5 := hF5.size; have nx := World.news_of_block (cs := #[.int .i64 new]) ((hgrow5.block w4.heap.size (by simp; omega) (by simp [Value.ownBlock])).trans HO.out.2.2.2.2.2.2.2.1))))
                    all_goals
                      have hb6 := HP.out.1.fr0 hF6
                      have n6 := own_ne hown6 hb6 (by decide)
                      have ap6 := own_apart hown6 hb6 (by decide)
                      have hs7 : Fr1 p w6 (w6.setCell ⟨p, 0, none⟩ (.slice (some ⟨g6, 0, none⟩) (M.length + 1) cap6)) := (Fr1.refl p w6).set 0 _
                      have hb7 : Blk (w6.setCell ⟨p, 0, none⟩ (.slice (some ⟨g6, 0, none⟩) (M.length + 1) cap6)) p #[.slice (some ⟨g6, 0, none⟩) (M.length + 1) cap6, .slice (some ⟨g8, f8, none⟩) M.length c8] 44 := hb6.set 0 _
                      have o6 := own_fr hown6 hs7 n6
                      have r87 := (HP.out.2.2.2.1.fr0 hF6).fr1 hs7 (fun _ => ap8)
                      have hF7 : Fr1 p w (w6.setCell ⟨p, 0, none⟩ (.slice (some ⟨g6, 0, none⟩) (M.length + 1) cap6)) := (HP.out.2.2.2.2.then0 hF6).trans hs7
                      generalize w6.setCell ⟨p, 0, none⟩ (.slice (some ⟨g6, 0, none⟩) (M.length + 1) cap6) = w7 at *
                      have cp71 : w7.cell? ⟨p, 1, none⟩ = some (.slice (some ⟨g8, f8, none⟩) M.length c8) := hb7.cell 1 rfl
                      have O7 : (w7.alloc (.cells #[] 9)).ownsRow w7.heap.size 9 1 (.slice (some ⟨w7.heap.size, 0, none⟩) 0 0) 0 [] := own_empty (heap_alloc_new w7 _) (Nat.le_refl _)
                      have N7 := (r87.fr0 ((Fr0.refl w7).alloc (.cells #[] 9))).news
                      have HQ := Lib.hid (And.intro hb7 (And.intro o6 hF7))
                      clear z1 z2 y1 hown6 hgrow6 hgrow5 hown5 hb6 n6 hs7 hb7 o6 r87 hF7 hF6 hF5 hw5 hat5 hlt5 hat6 hlt6 cp40 cx41
                      go_wp2_with (first
                        | (at_builtin; have _q := hown8; refine wpList_append_own _ rfl (.tmp 134) (.tmp 136) 42 rfl w7.heap.size 9 i9 (.string ⟨#[]⟩) 1 16 Try.underlying42 hi9 hz90 hz91 hz92 rfl (by decide) _ M.length (scells (M.map (·.2))) rfl (by exact hown8.alloc _) ⟨w8.heap.size, 0, none⟩ 1 1 [.string S1] rfl rfl (World.news_of_block (cs := #[.string S1]) (t := 9) (fr := (0, 0)) (by exact heap_alloc_new w8 _)) (by simp [Value.oneCell']) (by unfold maxLen; omega) (by omega) (by have := hgrow8.size; simp at this ⊢; omega) ?_; intro v9 w9 hown9 hgrow9 _; obtain ⟨A9, c9, rfl, _, _, _⟩ := own_form hown9; have hF9 : Fr0 w7 w9 := Fr.grown (hF8.alloc _) hgrow9 (fun j hj => .inr (own_lt' hown8 j hj).1); have z1 := hF9.cell cp71; have z2 := (HQ.out.1.fr0 hF9).free 1)
                        | (at_builtin; refine wpList_append_own _ rfl (.tmp 132) (.tmp 133) 42 rfl w7.heap.size 9 i9 (.string ⟨#[]⟩) 1 16 Try.underlying42 hi9 hz90 hz91 hz92 rfl (by decide) _ 0 [] rfl O7 ⟨g8, f8, none⟩ M.length c8 (scells (M.map (·.2))) rfl (by simp [scells]) N7 (by intro u hu; simp only [scells, List.mem_map] at hu; obtain ⟨_, _, rfl⟩ := hu; rfl) (by unfold maxLen; omega) (by omega) (by simp) ?_; intro v8 w8 hown8 hgrow8 _; simp only [Nat.zero_add, List.nil_append] at hown8; have hF8 : Fr0 w7 w8 := Fr.grown ((Fr0.refl w7).alloc _) hgrow8 (fun j hj => .inr (by cases hj; exact Nat.le_refl _))))
                      have hend : RefAt (w9.setCell ⟨p, 1, none⟩ (.slice A9 (M.length + 1) c9)) p (.slice (some ⟨g6, 0, none⟩) (M.length + 1) cap6) (.slice A9 (M.length + 1) c9) (M ++ [(new, S1)]) ∧ Fr1 p w (w9.setCell ⟨p, 1, none⟩ (.slice A9 (M.length + 1) c9)) := by
                        obtain ⟨hb7, o6, hF7⟩ := HQ.out
                        have hb9 := hb7.fr0 hF9
                        have hs9 : Fr1 p w9 (w9.setCell ⟨p, 1, none⟩ (.slice A9 (M.length + 1) c9)) := (Fr1.refl p w9).set 1 _
                        have n9 := own_ne hown9 hb9 (by decide)
                        refine ⟨⟨hb9.set 1 _, ?_, ?_, ((TyB.of_own o6).fr0 hF9).fr1 hs9 hb9 (by decide), TyB.of_own (own_fr hown9 hs9 n9)⟩, (hF7.then0 hF9).trans hs9⟩
                        · have h := ((Rd.of_own o6).fr0 hF9).fr1 hs9 (fun _ => ap6)
                          simpa [icells] using h
                        · have h := Rd.of_own (own_fr hown9 hs9 n9)
                          simpa [scells] using h
                      have HEND := Lib.hid hend
                      clear hend
                      go_ret2
                      rw [HH3.out _ rfl]
                      first
                        | exact ⟨_, _, rfl, HEND.out.1, HEND.out.2⟩
                        | exact ⟨rfl, ⟨_, _, HEND.out.1⟩, HEND.out.2⟩
                · have hrt : ((applyF sk d).2 != 0) = true := by simp [hr0]
                  have HH2 := Lib.hid fun r hr => (HH.out r hr).trans (if_pos (by simp [hr0]))
                  clear HH hr0
                  go_wp2_with fail
                  go_ret2
                  rw [HH2.out _ rfl]
                  obtain ⟨hb3, o7, o8, hx3, hf3⟩ := HC.out
                  exact ⟨_, _, rfl, ⟨hb3.fr0 Hfk.out, by simpa using (Rd.of_own o7).fr0 Hfk.out, by simpa using (Rd.of_own o8).fr0 Hfk.out, (TyB.of_own o7).fr0 Hfk.out, (TyB.of_own o8).fr0 Hfk.out⟩, hf3.then0 Hfk.out⟩
              · have hqb : (nk != old) = true := by simp [hq]
                have hno' : Hid (∀ x ∈ M.take (k + 1), (x.1 == old) = false) := idx_more (f := fun h => h.1 == old) hlt hno.out (by rw [← Hnk.out]; simpa using hq)
                clear hno hq
                go_wp2_with fail
                go_quiet (fail)
                go_wp2_with fail
                go_roundw
                case rel => first | exact ⟨k + 1, by omega, by go_num, Fr0.drewN Hfk.out _, hno'⟩ | ((repeat apply Exists.intro); exact ⟨⟨k + 1, by omega, by go_num, Fr0.drewN Hfk.out _, hno'⟩, rfl⟩)
                case measure => simp [intOf]; omega
            · have : k = M.length := by omega
              subst this
              have hi := idx_none (f := fun h => h.1 == old) hno.out
              have HH := Lib.hid fun r hr => ((Hh'.out r hr).trans (if_pos (by rw [hi]; omega)))
              clear hi
              go_wp2_with fail
              go_ret2
              rw [HH.out _ rfl]
              exact ⟨_, _, rfl, ⟨hb3.fr0 hfk, by simpa using (Rd.of_own o7).fr0 hfk, by simpa using (Rd.of_own o8).fr0 hfk, (TyB.of_own o7).fr0 hfk, (TyB.of_own o8).fr0 hfk⟩, hf3.then0 hfk⟩
  · have het : (e0 != 0) = true := by simp [he]
    have Hh : rhear l old new ack trash d = (l, false, e0) := by unfold rhear; rw [if_pos (by rw [← He0.out]; exact he), ← He0.out]
    have HH := Lib.hid Hh
    clear Hh he
    go_wp2_with fail
    go_ret2
    rw [HH.out]
    exact ⟨_, _, rfl, ⟨hb1, hr1, hrs1, hapn.fr0 hf1, haps.fr0 hf1⟩, Fr1.of0 hf1⟩
end Go.Proofs.Ytbfamnfhnjgllaa
