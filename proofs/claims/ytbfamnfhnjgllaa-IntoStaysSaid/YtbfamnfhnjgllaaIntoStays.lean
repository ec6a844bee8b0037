/- IntoStays: the newest state is another one just where Hear tells so, and then under the number New; what is held ahead of it are numbers that were held: the law returns true for every input. No condition. -/
import Derived.Test.YtbfamnfhnjgllaaStaysLaw
namespace Go.Proofs.Ytbfamnfhnjgllaa
open Go.RowKit

/-- What the loop carries: a hearer with one to sixteen states, its texts of bounded length. -/
def StaysInv (B0 p k : Nat) (w wr : World) : Prop :=
  Fr0 w wr ∧ B0 ≤ p ∧ ∃ sv all, InAt wr p (.func (.func 9) #[] #[]) sv all ∧ 0 < all.length ∧ all.length ≤ 16 ∧ ∀ x ∈ all, x.2.size ≤ 100 + 100 * k

theorem staysF_size (s : ByteArray) (d : List UInt8) : (staysF s d).1.size ≤ s.size + d.length := by
  unfold staysF
  split
  · exact Nat.zero_le _
  · show (s ++ str d).size ≤ _
    rw [ByteArray.size_append, str_size]
    omega

set_option maxRecDepth 100000 in
set_option maxHeartbeats 2000000 in
theorem intoStays_any (first : ByteArray) (lv : Value) (l : List InsD) {w : World} (hl : InsArg w lv l) (hs : first.size ≤ 9223372036854775807) :
    Calls Try.prog 3 #[.string first, lv] w fun e w' => e = .returned (.bool true) ∧ Fr0 w w' := by
  obtain ⟨A, c, rfl, hnc, _, _⟩ := hl.rd.form
  have hl63 := hl.rd.le63
  by_cases hf100 : 100 < first.size
  · go_enter Try.func3, Try.ntmps3
    go_wp2_with (go_at_call 7; refine (known_any _).mono ?_; rintro e w' ⟨rfl, hf⟩)
    go_ret
    exact ⟨rfl, hf⟩
  · by_cases hl100 : 100 < l.length
    · have hb : decide ((100 : Int) < (first.size : Int)) = false := by simp; omega
      go_enter Try.func3, Try.ntmps3
      go_wp2_with (go_at_call 7; refine (known_any _).mono ?_; rintro e w' ⟨rfl, hf⟩)
      go_ret
      exact ⟨rfl, hf⟩
    · have hb : decide ((100 : Int) < (first.size : Int)) = false := by simp; omega
      have hb2 : decide ((100 : Int) < (l.length : Int)) = false := by simp; omega
      go_enter Try.func3, Try.ntmps3
      go_wp2_with (go_at_call 7; refine (known_any _).mono ?_; rintro e w0 ⟨rfl, hf0⟩)
      refine (new_any _ _ _ _).mono ?_
      rintro e w1 ⟨p, sv, rfl, hin, hp0, hp1, hf1⟩
      replace hf1 := hf0.trans hf1
      replace hp0 : w.heap.size ≤ p := Nat.le_trans hf0.size hp0
      go_wp2_with fail
      go_loopw [6] (fun v wr => ∃ k : Nat, k ≤ l.length ∧ v = .int .i64 k ∧ StaysInv w.heap.size p k w wr) (fun v _ => l.length - (intOf v).toNat)
      case atStart => exact ⟨0, Nat.zero_le _, rfl, hf1, hp0, sv, _, hin, by simp, by simp, fun x hx => by simp at hx; rw [hx]; simp; omega⟩
      case round =>
        obtain ⟨k, hk, rfl, hf, _, sv2, all, hin2, hn0, hn1, hsz⟩ := hrel
        clear hin hp1 hf0 hf1
        by_cases hlt : k < l.length
        · have hl2 := hl.fr0 hf
          obtain ⟨g, off, rfl, hic, hg, hc⟩ := hl2.rd.cellA (i := k) hlt
          have C1 : w.cell? ⟨g, off + k * 5 + 1, none⟩ = some (.int .i64 l[k].new) := hl.rd.cellG hlt (insCells_at l k hlt).2.1
          obtain ⟨a0, a1, a2, a3, a4⟩ := insCells_at l k hlt
          have c0 := hc 0 _ a0
          have c1 := hc 1 _ a1
          have c2 := hc 2 _ a2
          have c3 := hc 3 _ a3
          have c4 := hc 4 _ a4
          simp only [Nat.add_zero] at c0
          obtain ⟨y, hy⟩ : ∃ y, y = l[k] := ⟨_, rfl⟩
          rw [← hy] at c0 c1 c2 c3 c4 C1
          have hyd : RdB wr y.dv y.d := hl2.each y (by rw [hy]; exact List.getElem_mem _)
          have hyd0 : RdB w y.dv y.d := hl.each y (by rw [hy]; exact List.getElem_mem _)
          obtain ⟨Ad, cd, hdv, hncd, _, _⟩ := hyd.form
          rw [hdv] at c4 hyd hyd0
          have hd63 : y.d.length ≤ 9223372036854775807 := Rd.le63 hyd
          clear hc a0 a1 a2 a3 a4 hy hdv
          have Hl := Lib.hid hl; have Hl2 := Lib.hid hl2
          clear hl hl2
          by_cases hd100 : 100 < y.d.length
          · go_wp2_with fail
            go_ret
            exact ⟨rfl, hf⟩
          · go_wp2_with fail
            refine (held_any hin2 hn0 (by omega)).mono ?_
            rintro e w2 ⟨v7, rfl, own7, hf2⟩
            replace hin2 := hin2.fr0 hf2
            go_wp2_with fail
            refine (newest_any hin2 hn0).mono ?_
            rintro e w3 ⟨rfl, hf3⟩
            obtain ⟨N, hN⟩ : ∃ N, N = (all[all.length - 1]'(by omega)).1 := ⟨_, rfl⟩
            obtain ⟨S, hS⟩ : ∃ S, S = (all[all.length - 1]'(by omega)).2 := ⟨_, rfl⟩
            rw [← hN, ← hS]
            have HN := Lib.hid hN; have HS := Lib.hid hS
            clear hN hS
            replace hin2 := hin2.fr0 hf3
            replace own7 := own_fr own7 hf3 (fun _ _ h => h)
            replace hf2 := hf2.trans hf3
            clear hf3
            have cell_at : ∀ a v, wr.cell? a = some v → w3.cell? a = some v := fun a v h => (Below.cell (Fr0.below hf2) (World.block_lt_of_cell? wr a h)).trans h
            replace c0 := cell_at _ _ c0
            replace c1 := cell_at _ _ c1
            replace c2 := cell_at _ _ c2
            replace c3 := cell_at _ _ c3
            replace c4 := cell_at _ _ c4
            clear cell_at
            have k0 : (0 : Int) ≤ (k : Int) := by omega
            have k1 : (k : Int) < (l.length : Int) := by omega
            have H7 := Lib.hid own7; have Hin := Lib.hid hin2; have Hsz := Lib.hid hsz
            clear own7 hin2 hsz
            go_wp2_with fail
            have hyd3 := (hyd.fr0 hf2)
            refine (hear_any stays_fn Hin.out hn0 (by omega) (fun x hx => by have := Hsz.out x hx; omega) _ _ _ _ _ _ y.d (by omega) hyd3 (fun hd0 => fun h => by have := Rd.blk_lt hyd0 hd0 p h; omega)).mono ?_
            rintro e w4 ⟨sv4, rfl, hin4, hf4⟩
            obtain ⟨R, hR⟩ : ∃ R, R = hear staysF all y.old y.new y.ack y.trash y.d := ⟨_, rfl⟩
            rw [← hR] at hin4 ⊢
            have hcases := hear_cases staysF all y.old y.new y.ack y.trash y.d hn0
            rw [← hR] at hcases
            clear hR hyd3 hyd
            have hf4' : Fr0 w w4 := (hf.trans hf2).new hf4 hp0
            have H7b := own_fr H7.out hf4 (own_ne H7.out Hin.out.blk (by decide))
            obtain ⟨K, hK, hc⟩ := hcases
            have hlast : ∀ h, (all.drop K)[(all.drop K).length - 1]'h = all[all.length - 1]'(by omega) := by
              intro h
              rw [List.getElem_drop]
              congr 1
              rw [List.length_drop]; omega
            have hdl : (all.drop K).length = all.length - K := List.length_drop
            rcases hc with ⟨hr2, hr1⟩ | ⟨x, z, hz, hr, hnew, hM16, hx, _⟩
            · obtain ⟨R1, Rb, Re⟩ := R
              simp only [] at hr1 hr2 hin4
              subst hr1 hr2
              have hd0 : 0 < (all.drop K).length := by omega
              go_wp2_with fail
              refine (newest_any hin4 hd0).mono ?_
              rintro e w5 ⟨rfl, hf5⟩
              rw [hlast, ← HN.out, ← HS.out]
              go_wp2_with fail
              replace hin4 := hin4.fr0 hf5
              refine (held_any hin4 hd0 (by omega)).mono ?_
              rintro e w6 ⟨v14, rfl, own14, hf6⟩
              replace hin4 := hin4.fr0 hf6
              have hfw : Fr0 w w6 := (hf4'.trans hf5).trans hf6
              have H7c := own_fr (own_fr H7b hf5 (fun _ _ h => h)) hf6 (fun _ _ h => h)
              obtain ⟨a, ha⟩ : ∃ a : List Int, a = (all.drop K).map (·.1) := ⟨_, rfl⟩
              have hal : a.length = all.length - K := by rw [ha, List.length_map, hdl]
              have own14' : w6.ownsRow w5.heap.size 3 1 v14 a.length (icells a) := by
                have h := own14
                rw [← ha, ← List.length_map (f := (·.1)), ← ha] at h
                exact h
              obtain ⟨A14, c14, rfl, hn14, hm14, _⟩ := own_form own14'
              obtain ⟨A7, c7, rfl, hn7, hm7, _⟩ := own_form H7c
              have r14 := Rd.of_own own14'
              have r7 := Rd.of_own H7c
              obtain ⟨g14, o14, rfl, hi14, hg14, hc14⟩ := r14.cellA (i := a.length - 1) (by omega)
              have hNa : a[a.length - 1]? = some N := by
                rw [HN.out, List.getElem?_eq_getElem (by omega)]
                congr 1
                have := hlast (by omega)
                rw [← this]
                simp only [ha, List.getElem_map, List.length_map]
              have e14 := hc14 0 (.int .i64 N) (by simp [icells, hNa])
              simp only [Nat.add_zero, Nat.mul_one] at e14
              have d1 := hfw.cell C1
              have b0 : ((S.toList == S.toList) = true) := by simp
              have a1 : 1 ≤ a.length := by omega
              have b3 : decide (all.length < a.length) = false := by simp; omega
              have hle : a.length ≤ all.length := by omega
              have b4 : ((a.length : Int) == 0) = false := by rw [beq_eq_false_iff_ne]; omega
              have HH := Lib.hid (And.intro hin4 (And.intro hfw (And.intro r14 r7)))
              have Hal := Lib.hid hal; have Ha := Lib.hid ha
              have al16 : a.length ≤ 16 := by omega
              clear hc14 hin4 hfw r14 r7 own14' own14 H7b H7c H7 Hin c0 c1 c2 c3 c4 hf4' hf5 hf6 hf4 hf2 hal ha hlast hdl hNa hd0
              go_wp2_with fail
              go_loopw [15] (fun v wr => ∃ j : Nat, j ≤ a.length ∧ v = .int .i64 j ∧ Fr0 w6 wr) (fun v _ => a.length - (intOf v).toNat)
              case atStart => exact ⟨0, Nat.zero_le _, rfl, Fr0.refl _⟩
              case round =>
                obtain ⟨j, hj, rfl, hfj⟩ := hrel
                obtain ⟨hin6, hfw6, r14, r7⟩ := HH.out
                by_cases hjl : j < a.length
                · have r14' := r14.fr0 hfj
                  obtain ⟨g2, o2, rfl, hi2, _, hc2⟩ := (r7.fr0 hfj).cellA (i := all.length - a.length + j) (by omega)
                  have f1 := r14'.cellG (i := j) (j := 0) (u := .int .i64 a[j]) hjl (by simpa using icells_at a j hjl)
                  have f2 := hc2 0 (.int .i64 a[j]) (by
                    have h1 : (all.map (·.1))[all.length - a.length + j]? = some a[j] := by
                      have h2 : a[j]? = ((all.map (·.1)).drop K)[j]? := by rw [Ha.out, List.map_drop]
                      rw [List.getElem?_drop] at h2
                      rw [← List.getElem?_eq_getElem hjl, h2]
                      congr 1
                      have := Hal.out
                      omega
                    simp only [Nat.mul_one, Nat.add_zero, icells, List.getElem?_map] at h1 ⊢
                    rw [h1]
                    rfl)
                  simp only [Nat.add_zero, Nat.mul_one] at f1 f2
                  obtain ⟨q, hq⟩ : ∃ q, q = a[j] := ⟨_, rfl⟩
                  rw [← hq] at f1 f2
                  have j0 : (0 : Int) ≤ (j : Int) := by omega
                  have j1 : (j : Int) < (a.length : Int) := by omega
                  have j2 : (a.length : Int) ≤ (all.length : Int) := by omega
                  have j3 : (all.length : Int) ≤ 16 := by omega
                  clear hc2 hq r14 r7 r14' hin6 hfw6
                  go_wp2_with fail
                  go_quiet (fail)
                  go_wp2_with fail
                  go_roundw
                  case rel => first | exact ⟨j + 1, by omega, by go_num, hfj.drewN _⟩ | ((repeat apply Exists.intro); exact ⟨⟨j + 1, by omega, by go_num, hfj.drewN _⟩, rfl⟩)
                  case measure => simp [intOf]; omega
                · have hfin : StaysInv w.heap.size p (k + 1) w wr := by
                    refine ⟨hfw6.trans hfj, hp0, sv4, _, hin6.fr0 hfj, by rw [List.length_drop]; omega, by rw [List.length_drop]; omega, fun q hq => ?_⟩
                    have := Hsz.out q (List.mem_of_mem_drop hq)
                    omega
                  have HF := Lib.hid hfin
                  clear hfin r14 r7 hin6 hfw6
                  go_wp2_with fail
                  go_roundw
                  case rel => first | exact ⟨k + 1, by omega, by go_num, HF.out⟩ | ((repeat apply Exists.intro); exact ⟨⟨k + 1, by omega, by go_num, HF.out⟩, rfl⟩)
                  case measure => simp [intOf]; omega
            · subst hr
              simp only [] at hin4
              go_wp2_with fail
              refine (newest_any hin4 (by simp)).mono ?_
              rintro e w5 ⟨rfl, hf5⟩
              have e1 : ((all.drop K ++ [(y.new, x)])[(all.drop K ++ [(y.new, x)]).length - 1]'(by simp)) = (y.new, x) := by simp
              rw [e1]
              clear e1
              go_wp2_with fail
              replace hin4 := hin4.fr0 hf5
              refine (held_any hin4 (by simp) (by rw [List.length_append]; simp; omega)).mono ?_
              rintro e w6 ⟨v14, rfl, own14, hf6⟩
              replace hin4 := hin4.fr0 hf6
              have hfw : Fr0 w w6 := (hf4'.trans hf5).trans hf6
              have H7c := own_fr (own_fr H7b hf5 (fun _ _ h => h)) hf6 (fun _ _ h => h)
              obtain ⟨a, ha⟩ : ∃ a : List Int, a = (all.drop K).map (·.1) := ⟨_, rfl⟩
              have hal : a.length = all.length - K := by rw [ha, List.length_map, hdl]
              have own14' : w6.ownsRow w5.heap.size 3 1 v14 (a.length + 1) (icells (a ++ [y.new])) := by
                have h := own14
                rw [List.map_append, ← ha, List.length_append, ← List.length_map (f := (·.1)), ← ha] at h
                exact h
              obtain ⟨A14, c14, rfl, hn14, hm14, _⟩ := own_form own14'
              obtain ⟨A7, c7, rfl, hn7, hm7, _⟩ := own_form H7c
              have r14 := Rd.of_own own14'
              have r7 := Rd.of_own H7c
              obtain ⟨g14, o14, rfl, hi14, hg14, hc14⟩ := r14.cellA (i := a.length) (by omega)
              have e14 := hc14 0 (.int .i64 y.new) (by simp [icells])
              simp only [Nat.add_zero, Nat.mul_one] at e14
              have d1 := hfw.cell C1
              have hNn : N < y.new := by rw [HN.out]; exact hnew
              have b1 : decide (y.new ≤ N) = false := by simp; omega
              have b2 : ((a.length : Int) + 1 == 0) = false := by rw [beq_eq_false_iff_ne]; omega
              have b3 : decide (all.length < a.length) = false := by simp; omega
              have hle : a.length ≤ all.length := by omega
              have b4 : ((a.length : Int) == 0) = false := by rw [beq_eq_false_iff_ne]; omega
              have HH := Lib.hid (And.intro hin4 (And.intro hfw (And.intro r14 r7)))
              have Hal := Lib.hid hal; have Ha := Lib.hid ha
              have HX := Lib.hid hx
              have al16 : a.length ≤ 16 := by omega
              clear hc14 hin4 hfw r14 r7 own14' own14 H7b H7c H7 Hin c0 c1 c2 c3 c4 hf4' hf5 hf6 hf4 hf2 hal ha hx hlast hdl
              go_wp2_with fail
              go_loopw [15] (fun v wr => ∃ j : Nat, j ≤ a.length ∧ v = .int .i64 j ∧ Fr0 w6 wr) (fun v _ => a.length - (intOf v).toNat)
              case atStart => exact ⟨0, Nat.zero_le _, rfl, Fr0.refl _⟩
              case round =>
                obtain ⟨j, hj, rfl, hfj⟩ := hrel
                obtain ⟨hin6, hfw6, r14, r7⟩ := HH.out
                by_cases hjl : j < a.length
                · have r14' := (r14.fr0 hfj).take (k := a.length) (by omega) rfl
                  rw [show (icells (a ++ [y.new])).take (a.length * 1) = icells a from by simp [icells]] at r14'
                  obtain ⟨g2, o2, rfl, hi2, _, hc2⟩ := (r7.fr0 hfj).cellA (i := all.length - a.length + j) (by omega)
                  have f1 := r14'.cellG (i := j) (j := 0) (u := .int .i64 a[j]) hjl (by simpa using icells_at a j hjl)
                  have f2 := hc2 0 (.int .i64 a[j]) (by
                    have h1 : (all.map (·.1))[all.length - a.length + j]? = some a[j] := by
                      have h2 : a[j]? = ((all.map (·.1)).drop K)[j]? := by rw [Ha.out, List.map_drop]
                      rw [List.getElem?_drop] at h2
                      rw [← List.getElem?_eq_getElem hjl, h2]
                      congr 1
                      have := Hal.out
                      omega
                    simp only [Nat.mul_one, Nat.add_zero, icells, List.getElem?_map] at h1 ⊢
                    rw [h1]
                    rfl)
                  simp only [Nat.add_zero, Nat.mul_one] at f1 f2
                  obtain ⟨q, hq⟩ : ∃ q, q = a[j] := ⟨_, rfl⟩
                  rw [← hq] at f1 f2
                  have j0 : (0 : Int) ≤ (j : Int) := by omega
                  have j1 : (j : Int) < (a.length : Int) := by omega
                  have j2 : (a.length : Int) ≤ (all.length : Int) := by omega
                  have j3 : (all.length : Int) ≤ 16 := by omega
                  clear hc2 hq r14 r7 r14' hin6 hfw6
                  go_wp2_with fail
                  go_quiet (fail)
                  go_wp2_with fail
                  go_roundw
                  case rel => first | exact ⟨j + 1, by omega, by go_num, hfj.drewN _⟩ | ((repeat apply Exists.intro); exact ⟨⟨j + 1, by omega, by go_num, hfj.drewN _⟩, rfl⟩)
                  case measure => simp [intOf]; omega
                · have hfin : StaysInv w.heap.size p (k + 1) w wr := by
                    refine ⟨hfw6.trans hfj, hp0, sv4, _, hin6.fr0 hfj, by simp, by have := hM16; simp at this ⊢; omega, fun q hq => ?_⟩
                    rcases List.mem_append.1 hq with hq | hq
                    · have := Hsz.out q (List.mem_of_mem_drop hq); omega
                    · simp at hq
                      rw [hq, HX.out]
                      show (staysF z.2 y.d).1.size ≤ _
                      have h1 := staysF_size z.2 y.d
                      have h2 := Hsz.out z hz
                      omega
                  have HF := Lib.hid hfin
                  clear hfin r14 r7 hin6 hfw6
                  go_wp2_with fail
                  go_roundw
                  case rel => first | exact ⟨k + 1, by omega, by go_num, HF.out⟩ | ((repeat apply Exists.intro); exact ⟨⟨k + 1, by omega, by go_num, HF.out⟩, rfl⟩)
                  case measure => simp [intOf]; omega
        · have : k = l.length := by omega
          subst this
          go_wp2_with fail
          go_ret
          exact ⟨rfl, hf⟩

namespace IntoStays
open Go.ChangeShapes Go.WideShapes Go.ChangeAt
open Go.ChangeMaps (open_string shut_string)

theorem own : ownKnob Try.prog.godebug = none := by kernel_rfl
theorem laidOut : laidOutB Try.prog = true := by kernel_rfl

set_option maxRecDepth 100000 in
theorem lifted (os : Os) (started : os.Started) (H : Type) (enc : TypeId × Value → H) :
    ReturnsInHanded {} Try.checked os 3 .any (Rows.intoStaysSpec.pre6 enc Try.prog Try.f3 Rows.intoStaysRow.domain false) (Rows.intoStaysSpec.post enc Try.prog Try.f3 false true false false) := by
  refine returnsInHanded_of_change (C := Try.checked) own started (by kernel_rfl) Try.func3
    (ChangeSpec.witness6 (enc := enc) (C := Try.checked) false ⟨#[], #[.string ⟨#[]⟩, .slice none 0 0], []⟩ 8 (by kernel_rfl) (by kernel_rfl) (by kernel_rfl) (by kernel_rfl)) ?_
  intro W base args ds gs before hval0 hW hcnd _
  have hval : ∀ (j : Nat) t v, Try.f3.params[j]? = some t → args[j]? = some v → Value.okWide Try.prog W .any base t v := hval0
  have hW' := hW
  obtain ⟨p, q, hA0, hV, rfl, hfz, hnd⟩ := hW
  have hA : DataW.TrodAll enc Try.prog W 0 (fun _ => true) true Try.f3.params.toList args.toList ds p := hA0
  rw [Try.params3] at hA hval
  obtain ⟨v0, vs0, d0', ds0, p0, q0, hargs, rfl, rfl, h0, r0⟩ := trodAll_cons hA
  obtain ⟨v1, vs1, d1', ds1, p1, q1, rfl, rfl, rfl, h1, r1⟩ := trodAll_cons r0
  obtain ⟨rfl, rfl, rfl⟩ := trodAll_nil r1
  obtain rfl : args = #[v0, v1] := by cases args; simp_all
  obtain ⟨rfl, rfl⟩ := trodVars_none hV
  obtain ⟨s0, rfl, rfl, rfl, hs0⟩ := open_string Try.underlying9 (hval 0 9 v0 rfl rfl) h0
  have k1 := h1
  have lt1 : ∀ x ∈ p1, x.block < W.heap.size := by obtain ⟨m, hm⟩ := k1; exact DataW.trod_lt m _ _ _ hm
  obtain ⟨A1, n1, c1, rfl⟩ := okWide_slice Try.underlying22 (hval 1 22 v1 rfl rfl)
  obtain ⟨fuel1, hf1⟩ := h1
  obtain ⟨l1, hy1⟩ := arg_instrs (tb := 26) (eb := 5) Try.underlying22 Try.underlying30 (by kernel_rfl) (by kernel_rfl)
    (fun j hj => by rcases (by omega : j = 0 ∨ j = 1 ∨ j = 2 ∨ j = 3) with rfl | rfl | rfl | rfl <;> exact ⟨_, rfl, Try.underlying3⟩) ⟨_, rfl, rfl⟩ Try.underlying26 Try.underlying5 (by kernel_rfl) hf1
  clear hA0 hval0
  refine (intoStays_any s0 _ l1 hy1 (by unfold maxLen at hs0; omega)).mono fun e W' ⟨he, hfr⟩ => ?_
  have bel : Below W.heap.size W W' := Fr0.below hfr
  subst he
  exact ⟨_, rfl, _, _, _, [], _, [], hW', trodAll_mk1 (shut_bool Try.underlying4 _), (trodAll_cons_mk (shut_string Try.underlying9 hs0) (trodAll_cons_mk (Below.trod laidOut (by kernel_rfl) (of_decide_eq_true (by kernel_rfl)) k1 bel lt1) trodAll_mk0)), rfl, bel.frame _, fun h => by cases h⟩

theorem over : Rows.intoStaysRow.holds Try.pinned (OpenSpec.ofChange Rows.intoStaysSpec) :=
  OpenClaim.holds_of_wide 3 Try.f3 rfl rfl rfl rfl rfl rfl rfl ⟨rfl, rfl, rfl, rfl, rfl⟩ rfl rfl rfl rfl rfl (by kernel_rfl) Try.func3 (by kernel_rfl)
    (of_decide_eq_true (by kernel_rfl)) (by unfold Func.isWrapper; first | (rw [if_pos (by decide +kernel)]; kernel_rfl) | (rw [if_neg (by decide +kernel)]; exact ⟨rfl, rfl⟩))
    (fun os started H enc _ => lifted os started H enc)

theorem proved : Rows.IntoStaysSaid := over
#print axioms proved
end IntoStays
end Go.Proofs.Ytbfamnfhnjgllaa
