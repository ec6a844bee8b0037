/- WireReads: a reader tells of any bytes what the document says, call by call, and how it stands behind each: the law returns true for every bytes and every calls. No condition. -/
import Derived.Test.YthgmimeheeajgaaWireForms
import Derived.Test.YthgmimeheeajgaaWireRefText
import Derived.Test.YthgmimeheeajgaaArgsRows
namespace Go.Proofs.Ythgmimeheeajgaa
open Go.RowKit

theorem RdrV.frS {S : Nat → Prop} {w w' : World} {p : Nat} {A : Option Addr} {c : Nat} {d : List UInt8} {e : Int} (h : RdrV w p A c d e) (hf : Fr S w w') (hp : ¬ S p) (hs : ∀ g, Value.blk (.slice A d.length c) = some g → ¬ S g) : RdrV w' p A c d e :=
  ⟨h.blk.fr hf hp, Rd.fr h.rd hf (fun _ => hs), h.ty.fr hf hs⟩
theorem rNum_left' (d : List UInt8) (e : Int) : (rNum d e).2.1.length ≤ d.length := by
  unfold rNum; split
  · simp
  · split <;> simp
theorem rFixed_left' (d : List UInt8) (e k : Int) : (rFixed d e k).2.1.length ≤ d.length := by
  unfold rFixed; split
  · simp
  · split <;> simp
theorem rText_left' (d : List UInt8) (e k : Int) : (rText d e k).2.1.length ≤ d.length := by
  unfold rText; split
  · simp
  · split <;> simp
theorem rRest_left' (d : List UInt8) (e : Int) : (rRest d e).2.1.length ≤ d.length := by
  unfold rRest; split <;> simp

/-- Both readers stand alike. -/
def Alike (w w' : World) (p q : Nat) : Prop := Fr0 w w' ∧ ∃ A c A' c' d e, d.length ≤ 5000 ∧ RdrV w' p A c d e ∧ RefV w.heap.size w' q A' c' d e

set_option maxHeartbeats 8000000 in
set_option maxRecDepth 100000 in
theorem wireReads_any {vb vl : Value} {d : List UInt8} {l : List (List Int)} {w : World} (hb : RdB w vb d) (hl : Rd w 2 vl l.length (rowCells l)) (hrow : ∀ x ∈ l, IntRow 2 x) :
    Calls Try.prog 8 #[vb, vl] w fun e w' => e = .returned (.bool true) ∧ Fr0 w w' := by
  obtain ⟨Ab, cb, rfl, hnb, _, _⟩ := hb.form
  obtain ⟨Al, cl, rfl, hnl, _, _⟩ := hl.form
  have b63 := hb.le63
  have l63 := hl.le63
  by_cases hb2 : 5000 < d.length
  · have q0 : decide (5000 < (d.length : Int)) = true := by simp; omega
    have q1 : decide (5000 < d.length) = true := by simpa using hb2
    clear hb hl
    go_enter Try.func8, Try.ntmps8
    go_wp2_with (go_at_call 12; refine (known_any _).mono ?_; rintro e w2 ⟨rfl, hf⟩; have F := Lib.hid hf; clear hf)
    go_ret
    exact ⟨rfl, F.out⟩
  have q0 : decide (5000 < (d.length : Int)) = false := by simp; omega
  have q1 : decide (5000 < d.length) = false := by simpa using hb2
  by_cases hl2 : 200 < l.length
  · have q2 : decide (200 < (l.length : Int)) = true := by simp; omega
    have q3 : decide (200 < l.length) = true := by simpa using hl2
    clear hb hl
    go_enter Try.func8, Try.ntmps8
    go_wp2_with (go_at_call 12; refine (known_any _).mono ?_; rintro e w2 ⟨rfl, hf⟩; have F := Lib.hid hf; clear hf)
    go_ret
    exact ⟨rfl, F.out⟩
  have q2 : decide (200 < (l.length : Int)) = false := by simp; omega
  have q3 : decide (200 < l.length) = false := by simpa using hl2
  have hd : d.length ≤ 5000 := by omega
  have B := Lib.hid hb
  have L := Lib.hid hl
  clear hb hl hb2 hl2
  go_enter Try.func8, Try.ntmps8
  go_wp2_with (first
    | (go_at_call 12; refine (known_any _).mono ?_; rintro e w2 ⟨rfl, hf⟩; have F := Lib.hid hf; clear hf)
    | (at_builtin; refine app_bytes rfl _ _ rfl (L1 := []) ((F.out).alloc _) (own_empty (heap_alloc_new _ _) (F.out).size) (by rfl) ((B.out).fr0 ((F.out).alloc _)) (by rfl) (by omega) ?_; intro Ak ck wK hown hf; rw [Nat.zero_add] at hown; rw [Nat.zero_add]; rw [List.nil_append] at hown; have O := Lib.hid hown; replace F := Lib.hid hf; have GO := Lib.hid (fun g (hg : (Value.slice Ak d.length ck).ownBlock = some g) => (own_lt' hown g hg).2); clear hown hf)
    | (go_at_call 13; refine (open_any (RdB.of_own O.out) (by omega)).mono ?_; rintro e w2 ⟨p, v', rfl, hbk, hown, hf, hp⟩; (obtain ⟨Ar, cr, rfl, -, -, -⟩ := own_form hown); have NE := Lib.hid (show ∀ g', (Value.slice Ak d.length ck).ownBlock = some g' → ∀ g, Value.blk (.slice Ar d.length cr) = some g → ¬ g = g' from fun g' hg' g hg e => by have h1 := own_lt' hown g (by cases Ar with | none => cases hg | some a => exact hg); have := GO.out g' hg'; omega); have R := Lib.hid (RdrV.mk hbk (RdB.of_own hown) (TyB.of_own hown)); have P := Lib.hid (Nat.le_trans (F.out).size hp); have PO := Lib.hid (show ∀ g', (Value.slice Ak d.length ck).ownBlock = some g' → ¬ p = g' from fun g' hg' e => by have := GO.out g' hg'; omega); replace O := Lib.hid (own_fr O.out hf (fun _ _ h => h)); replace F := Lib.hid ((F.out).trans hf); clear hbk hown hf hp))
  go_loopw [7] (fun v7 wr => ∃ i : Nat, v7 = .int .i64 (i : Int) ∧ i ≤ d.length ∧ Fr0 w wr ∧ RdrV wr p Ar cr d 0 ∧ ∃ xs, wr.ownsRow w.heap.size 5 1 (.slice Ak d.length ck) d.length xs) (fun v7 _ => d.length - (intOf v7).toNat)
  case atStart => exact ⟨0, rfl, by omega, F.out, R.out, _, O.out⟩
  case round =>
    clear F R O
    obtain ⟨i, rfl, hi, hf, hr, xs, ho⟩ := hrel
    by_cases hlt : i < d.length
    · have a1 : decide ((i : Int) < (d.length : Int)) = true := by simp; omega
      obtain ⟨g, c', hv, hg1, hg2, hnc⟩ := own_some ho (by omega)
      injection hv with hA _ hcc
      subst hA hcc
      have hxl := ho.1
      obtain ⟨⟨u, e1⟩, e2⟩ : (∃ u, wr.cell? ⟨g, i, none⟩ = some u) ∧ wr.frozen? ⟨g, i, none⟩ = false := by
        have := own_at ho (j := i) (u := xs[i]'(by omega)) (List.getElem?_eq_getElem _)
        exact ⟨⟨_, this.1⟩, this.2⟩
      have O := Lib.hid ho
      have R := Lib.hid hr
      have GB := Lib.hid hg1
      have i1 : (i : Int) < (d.length : Int) := by omega
      clear ho hr hxl hg1 hg2
      go_wp2_with fail
      go_roundw
      case measure => simp [intOf]; omega
      have hfs : Fr (fun k => k = g) wr (wr.setCell ⟨g, i, none⟩ (.int .u8 3)) := Fr.setCell (S := fun k => k = g) (p := ⟨g, i, none⟩) (Fr.refl (fun k => k = g) wr) (.inl rfl) _
      exact ⟨i + 1, by simp, by omega, Fr.setCell (p := ⟨g, i, none⟩) hf (.inr GB.out) _, (R.out).frS hfs (PO.out g rfl) (fun g' hg' => NE.out g rfl g' hg'), _, ((O.out).stored i _).1⟩
    · have a1 : decide ((i : Int) < (d.length : Int)) = false := by simp; omega
      have F := Lib.hid hf
      have R := Lib.hid hr
      clear hf hr ho GO NE PO
      obtain ⟨wA, hwA⟩ : ∃ wA, wA = wr.alloc (.cells #[.slice Ab d.length cb, .int .i64 0] 44) := ⟨_, rfl⟩
      have hFA : Fr0 w wA := by rw [hwA]; exact (F.out).alloc _
      have hRA : RdrV wA p Ar cr d 0 := by rw [hwA]; exact (R.out).fr0 ((Fr0.refl _).alloc _)
      have hVA : RefV w.heap.size wA wr.heap.size Ab cb d 0 := ⟨by rw [hwA]; exact Blk.new _ _ _, (B.out).fr0 hFA, fun h0 g hg => Rd.blk_lt B.out h0 g hg, (F.out).size⟩
      have AL := Lib.hid (show Alike w wA p wr.heap.size from ⟨hFA, Ar, cr, Ab, cb, d, 0, hd, hRA, hVA⟩)
      have PQ := Lib.hid (show p < wr.heap.size from (R.out).blk.lt)
      clear hFA hRA hVA
      subst hwA
      go_wp2_with fail
      generalize (wr.alloc (.cells #[.slice Ab d.length cb, .int .i64 0] 44)) = wA at *
      generalize wr.heap.size = q at *
      clear F R
      go_loopw [9] (fun v9 w3 => ∃ i : Nat, v9 = .int .i64 (i : Int) ∧ i ≤ l.length ∧ Alike w w3 p q) (fun v9 _ => l.length - (intOf v9).toNat)
      case atStart => exact ⟨0, rfl, by omega, AL.out⟩
      case round =>
        clear AL
        obtain ⟨j, rfl, hj, hal⟩ := hrel
        by_cases hjl : j < l.length
        · have a2 : decide ((j : Int) < (l.length : Int)) = true := by simp; omega
          have j1 : (j : Int) < (l.length : Int) := by omega
          obtain ⟨hx1, hx2⟩ := hrow _ (List.getElem_mem hjl)
          have hcell := fun jj hjj => rowCells_at (k := 2) (fun x hx => (hrow x hx).1) j jj hjl hjj
          obtain ⟨K, hK⟩ : ∃ K, K = l[j][0]'(by omega) := ⟨_, rfl⟩
          obtain ⟨N, hNN⟩ : ∃ N, N = l[j][1]'(by omega) := ⟨_, rfl⟩
          have hN : -9223372036854775808 ≤ N ∧ N ≤ 9223372036854775807 := by rw [hNN]; exact hx2 _ (List.getElem_mem _)
          have hc0 := hcell 0 (by decide)
          have hc1 := hcell 1 (by decide)
          rw [← hK] at hc0
          rw [← hNN] at hc1
          obtain ⟨g, off, hA, hic, _, _⟩ := (L.out).cellA hjl
          subst hA
          have LK := Lib.hid (fun (w' : World) (hw : Fr0 w w') => (Rd.fr0 L.out hw).cellG hjl hc0)
          have LN := Lib.hid (fun (w' : World) (hw : Fr0 w w') => (Rd.fr0 L.out hw).cellG hjl hc1)
          clear hx1 hx2 hcell hc0 hc1 hK hNN
          obtain ⟨hf, A, c, A', c', d', e, hd5, hr, hv⟩ := hal
          have eK := LK.out _ hf
          simp only [Nat.add_zero] at eK
          have F := Lib.hid hf
          have R := Lib.hid hr
          have V := Lib.hid hv
          clear hf hr hv
          by_cases hK0 : K = 0
          · have z0 : (K == 0) = true := by simpa using hK0
            clear hK0
            have hd2 : (rNum d' e).2.1.length ≤ 5000 := Nat.le_trans (rNum_left' d' e) hd5
            go_wp2_with (first
              | (go_at_call 14; refine (rnum_any R.out (by omega)).mono ?_; rintro x w4 ⟨rfl, hf, A2, c2, hr⟩; replace F := Lib.hid ((F.out).new hf P.out); replace V := Lib.hid ((V.out).fr1 hf P.out (Nat.ne_of_gt PQ.out)); replace R := Lib.hid hr; clear hf hr)
              | (go_at_call 24; refine (fnum_any V.out (by omega)).mono ?_; rintro x w5 ⟨rfl, hf, A3, c3, hv⟩; replace F := Lib.hid ((F.out).new hf (V.out).ge); replace R := Lib.hid ((R.out).frT (V.out).blk (by decide) (by decide) hf); replace V := Lib.hid hv; clear hf hv))
            have d0 : w5.cell? ⟨q, 0, none⟩ = some (.slice _ ((rNum d' e).2.1).length _) := (V.out).blk.cell 0 rfl
            have d1 : w5.cell? ⟨q, 1, none⟩ = some (.int .i64 ((rNum d' e).2.2)) := (V.out).blk.cell 1 rfl
            go_quiet (first
              | (go_at_call 15; exact Calls.quiet_of_same (rleft_any ((R.out).fr0 ((Fr0.refl w5).drewN _))))
              | (go_at_call 21; exact Calls.quiet_of_same (rerr_any ((R.out).fr0 ((Fr0.refl w5).drewN _))))
              | (go_at_call 29; exact Calls.quiet_of_same (rend_any ((R.out).fr0 ((Fr0.refl w5).drewN _)) (by omega)))
              | (go_at_call 30; exact Calls.quiet_of_same (fend_any ((V.out).fr0 ((Fr0.refl w5).drewN _)))))
            go_wp2_with fail
            go_roundw
            case measure => simp [intOf]; omega
            case rel => first | exact ⟨j + 1, by go_num, by omega, (F.out).drewN _, _, _, _, _, _, _, hd2, (R.out).fr0 ((Fr0.refl _).drewN _), (V.out).fr0 ((Fr0.refl _).drewN _)⟩ | ((repeat apply Exists.intro); exact ⟨⟨j + 1, by go_num, by omega, (F.out).drewN _, _, _, _, _, _, _, hd2, (R.out).fr0 ((Fr0.refl _).drewN _), (V.out).fr0 ((Fr0.refl _).drewN _)⟩, rfl⟩)
          · have z0 : (K == 0) = false := by simpa using hK0
            by_cases hK1 : K = 1
            · have z1 : (K == 1) = true := by simpa using hK1
              clear hK0 hK1
              have hd2 : (rFixed d' e N).2.1.length ≤ 5000 := Nat.le_trans (rFixed_left' d' e N) hd5
              go_wp2_with fail
              go_cut [73] (fun sx wx => sx = .bool false ∧ Fr0 w wx ∧ ∃ A2 c2 A3 c3, RdrV wx p A2 c2 (rFixed d' e N).2.1 (rFixed d' e N).2.2 ∧ RefV w.heap.size wx q A3 c3 (rFixed d' e N).2.1 (rFixed d' e N).2.2)
              case first =>
                replace R := Lib.hid ((R.out).fr0 ((Fr0.refl _).drew))
                replace V := Lib.hid ((V.out).fr0 ((Fr0.refl _).drew))
                replace F := Lib.hid ((F.out).drew)
                go_region_held_law (fun w' => w'.cell? ⟨g, off + j * 2 + 1, none⟩ = some (.int .i64 N)) (first | exact LN.out _ F.out) (first
                  | (go_at_call 23; refine (rfixed_any R.out (by omega) hN).mono ?_; rintro x w4 ⟨rfl, hf, A2, c2, hr⟩; replace F := Lib.hid ((F.out).new hf P.out); replace V := Lib.hid ((V.out).fr1 hf P.out (Nat.ne_of_gt PQ.out)); replace R := Lib.hid hr; clear hf hr)
                  | (go_at_call 25; refine (ffixed_any V.out (by omega) hN).mono ?_; rintro x w5 ⟨rfl, hf, A3, c3, hv⟩; replace F := Lib.hid ((F.out).new hf (V.out).ge); replace R := Lib.hid ((R.out).frT (V.out).blk (by decide) (by decide) hf); replace V := Lib.hid hv; clear hf hv))
                all_goals (go_wp2_with fail; go_meet; exact ⟨rfl, F.out, _, _, _, _, R.out, V.out⟩)
              case rest =>
                clear F R V
                obtain ⟨rfl, hf, A2, c2, A3, c3, hr, hv⟩ := hcut
                have F := Lib.hid hf
                have R := Lib.hid hr
                have V := Lib.hid hv
                clear hf hr hv
                go_wp2_with fail
                have d0 : wc.cell? ⟨q, 0, none⟩ = some (.slice _ ((rFixed d' e N).2.1).length _) := (V.out).blk.cell 0 rfl
                have d1 : wc.cell? ⟨q, 1, none⟩ = some (.int .i64 ((rFixed d' e N).2.2)) := (V.out).blk.cell 1 rfl
                go_quiet (first
                  | (go_at_call 15; exact Calls.quiet_of_same (rleft_any ((R.out).fr0 ((Fr0.refl wc).drewN _))))
                  | (go_at_call 21; exact Calls.quiet_of_same (rerr_any ((R.out).fr0 ((Fr0.refl wc).drewN _))))
                  | (go_at_call 29; exact Calls.quiet_of_same (rend_any ((R.out).fr0 ((Fr0.refl wc).drewN _)) (by omega)))
                  | (go_at_call 30; exact Calls.quiet_of_same (fend_any ((V.out).fr0 ((Fr0.refl wc).drewN _)))))
                go_wp2_with fail
                go_roundw
                case measure => simp [intOf]; omega
                case rel => first | exact ⟨j + 1, by go_num, by omega, (F.out).drewN _, _, _, _, _, _, _, hd2, (R.out).fr0 ((Fr0.refl _).drewN _), (V.out).fr0 ((Fr0.refl _).drewN _)⟩ | ((repeat apply Exists.intro); exact ⟨⟨j + 1, by go_num, by omega, (F.out).drewN _, _, _, _, _, _, _, hd2, (R.out).fr0 ((Fr0.refl _).drewN _), (V.out).fr0 ((Fr0.refl _).drewN _)⟩, rfl⟩)
            · have z1 : (K == 1) = false := by simpa using hK1
              by_cases hK2 : K = 2
              · have z2 : (K == 2) = true := by simpa using hK2
                clear hK0 hK1 hK2
                have hd2 : (rText d' e N).2.1.length ≤ 5000 := Nat.le_trans (rText_left' d' e N) hd5
                go_wp2_with fail
                go_cut [92] (fun sx wx => sx = .bool false ∧ Fr0 w wx ∧ ∃ A2 c2 A3 c3, RdrV wx p A2 c2 (rText d' e N).2.1 (rText d' e N).2.2 ∧ RefV w.heap.size wx q A3 c3 (rText d' e N).2.1 (rText d' e N).2.2)
                case first =>
                  replace R := Lib.hid ((R.out).fr0 ((Fr0.refl _).drew))
                  replace V := Lib.hid ((V.out).fr0 ((Fr0.refl _).drew))
                  replace F := Lib.hid ((F.out).drew)
                  go_region_held_law (fun w' => w'.cell? ⟨g, off + j * 2 + 1, none⟩ = some (.int .i64 N)) (first | exact LN.out _ F.out) (first
                    | (go_at_call 22; refine (rtext_any R.out (by omega) hN).mono ?_; rintro x w4 ⟨v, rfl, hown, hf, A2, c2, hr⟩; obtain ⟨A4, c4, rfl, hr4, hct⟩ := own_text hown; have O4 := Lib.hid hown; replace F := Lib.hid ((F.out).new hf P.out); replace V := Lib.hid ((V.out).fr1 hf P.out (Nat.ne_of_gt PQ.out)); replace R := Lib.hid hr; clear hf hr hown hr4)
                    | (go_at_call 26; refine (ftext_any V.out (by omega) hN).mono ?_; rintro x w5 ⟨v, rfl, hown, hf, A3, c3, hv⟩; obtain ⟨A5, c5, rfl, -, hct5⟩ := own_text hown; have hct4 := conv_own (RdB.of_own (own_fr O4.out hf (fun g hg e => own_ne O4.out (V.out).blk (by decide) g hg e))); replace F := Lib.hid ((F.out).new hf (V.out).ge); replace R := Lib.hid ((R.out).frT (V.out).blk (by decide) (by decide) hf); replace V := Lib.hid hv; clear hf hv hown))
                  all_goals (go_wp2_with fail; go_meet; exact ⟨rfl, F.out, _, _, _, _, R.out, V.out⟩)
                case rest =>
                  clear F R V
                  obtain ⟨rfl, hf, A2, c2, A3, c3, hr, hv⟩ := hcut
                  have F := Lib.hid hf
                  have R := Lib.hid hr
                  have V := Lib.hid hv
                  clear hf hr hv
                  go_wp2_with fail
                  have d0 : wc.cell? ⟨q, 0, none⟩ = some (.slice _ ((rText d' e N).2.1).length _) := (V.out).blk.cell 0 rfl
                  have d1 : wc.cell? ⟨q, 1, none⟩ = some (.int .i64 ((rText d' e N).2.2)) := (V.out).blk.cell 1 rfl
                  go_quiet (first
                    | (go_at_call 15; exact Calls.quiet_of_same (rleft_any ((R.out).fr0 ((Fr0.refl wc).drewN _))))
                    | (go_at_call 21; exact Calls.quiet_of_same (rerr_any ((R.out).fr0 ((Fr0.refl wc).drewN _))))
                    | (go_at_call 29; exact Calls.quiet_of_same (rend_any ((R.out).fr0 ((Fr0.refl wc).drewN _)) (by omega)))
                    | (go_at_call 30; exact Calls.quiet_of_same (fend_any ((V.out).fr0 ((Fr0.refl wc).drewN _)))))
                  go_wp2_with fail
                  go_roundw
                  case measure => simp [intOf]; omega
                  case rel => first | exact ⟨j + 1, by go_num, by omega, (F.out).drewN _, _, _, _, _, _, _, hd2, (R.out).fr0 ((Fr0.refl _).drewN _), (V.out).fr0 ((Fr0.refl _).drewN _)⟩ | ((repeat apply Exists.intro); exact ⟨⟨j + 1, by go_num, by omega, (F.out).drewN _, _, _, _, _, _, _, hd2, (R.out).fr0 ((Fr0.refl _).drewN _), (V.out).fr0 ((Fr0.refl _).drewN _)⟩, rfl⟩)
              · have z2 : (K == 2) = false := by simpa using hK2
                by_cases hK3 : K = 3
                · have z3 : (K == 3) = true := by simpa using hK3
                  clear hK0 hK1 hK2 hK3
                  have hd2 : (rRest d' e).2.1.length ≤ 5000 := Nat.le_trans (rRest_left' d' e) hd5
                  go_wp2_with fail
                  go_cut [101] (fun sx wx => sx = .bool false ∧ Fr0 w wx ∧ ∃ A2 c2 A3 c3, RdrV wx p A2 c2 (rRest d' e).2.1 (rRest d' e).2.2 ∧ RefV w.heap.size wx q A3 c3 (rRest d' e).2.1 (rRest d' e).2.2)
                  case first =>
                    replace R := Lib.hid ((R.out).fr0 ((Fr0.refl _).drew))
                    replace V := Lib.hid ((V.out).fr0 ((Fr0.refl _).drew))
                    replace F := Lib.hid ((F.out).drew)
                    go_region_held_law (fun _ => True) (first | exact trivial) (first
                      | (go_at_call 27; refine (rrest_any R.out (by omega)).mono ?_; rintro x w4 ⟨v, rfl, hown, hf, A2, c2, hr⟩; obtain ⟨A4, c4, rfl, hr4, hct⟩ := own_text hown; have O4 := Lib.hid hown; replace F := Lib.hid ((F.out).new hf P.out); replace V := Lib.hid ((V.out).fr1 hf P.out (Nat.ne_of_gt PQ.out)); replace R := Lib.hid hr; clear hf hr hown hr4)
                      | (go_at_call 28; refine (frest_any V.out).mono ?_; rintro x w5 ⟨A5, c5, rfl, hr5, hf, A3, c3, hv⟩; have hct5 := conv_own hr5; have hct4 := conv_own (RdB.of_own (own_fr O4.out hf (fun g hg e => own_ne O4.out (V.out).blk (by decide) g hg e))); replace F := Lib.hid ((F.out).new hf (V.out).ge); replace R := Lib.hid ((R.out).frT (V.out).blk (by decide) (by decide) hf); replace V := Lib.hid hv; clear hf hv hr5))
                    all_goals (go_wp2_with fail; go_meet; exact ⟨rfl, F.out, _, _, _, _, R.out, V.out⟩)
                  case rest =>
                    clear F R V
                    obtain ⟨rfl, hf, A2, c2, A3, c3, hr, hv⟩ := hcut
                    have F := Lib.hid hf
                    have R := Lib.hid hr
                    have V := Lib.hid hv
                    clear hf hr hv
                    go_wp2_with fail
                    have d0 : wc.cell? ⟨q, 0, none⟩ = some (.slice _ ((rRest d' e).2.1).length _) := (V.out).blk.cell 0 rfl
                    have d1 : wc.cell? ⟨q, 1, none⟩ = some (.int .i64 ((rRest d' e).2.2)) := (V.out).blk.cell 1 rfl
                    go_quiet (first
                      | (go_at_call 15; exact Calls.quiet_of_same (rleft_any ((R.out).fr0 ((Fr0.refl wc).drewN _))))
                      | (go_at_call 21; exact Calls.quiet_of_same (rerr_any ((R.out).fr0 ((Fr0.refl wc).drewN _))))
                      | (go_at_call 29; exact Calls.quiet_of_same (rend_any ((R.out).fr0 ((Fr0.refl wc).drewN _)) (by omega)))
                      | (go_at_call 30; exact Calls.quiet_of_same (fend_any ((V.out).fr0 ((Fr0.refl wc).drewN _)))))
                    go_wp2_with fail
                    go_roundw
                    case measure => simp [intOf]; omega
                    case rel => first | exact ⟨j + 1, by go_num, by omega, (F.out).drewN _, _, _, _, _, _, _, hd2, (R.out).fr0 ((Fr0.refl _).drewN _), (V.out).fr0 ((Fr0.refl _).drewN _)⟩ | ((repeat apply Exists.intro); exact ⟨⟨j + 1, by go_num, by omega, (F.out).drewN _, _, _, _, _, _, _, hd2, (R.out).fr0 ((Fr0.refl _).drewN _), (V.out).fr0 ((Fr0.refl _).drewN _)⟩, rfl⟩)
                · have z3 : (K == 3) = false := by simpa using hK3
                  clear hK0 hK1 hK2 hK3
                  have hd2 := hd5
                  go_wp2_with fail
                  have d0 : wr.cell? ⟨q, 0, none⟩ = some (.slice _ (d').length _) := (V.out).blk.cell 0 rfl
                  have d1 : wr.cell? ⟨q, 1, none⟩ = some (.int .i64 (e)) := (V.out).blk.cell 1 rfl
                  go_quiet (first
                    | (go_at_call 15; exact Calls.quiet_of_same (rleft_any ((R.out).fr0 ((Fr0.refl wr).drewN _))))
                    | (go_at_call 21; exact Calls.quiet_of_same (rerr_any ((R.out).fr0 ((Fr0.refl wr).drewN _))))
                    | (go_at_call 29; exact Calls.quiet_of_same (rend_any ((R.out).fr0 ((Fr0.refl wr).drewN _)) (by omega)))
                    | (go_at_call 30; exact Calls.quiet_of_same (fend_any ((V.out).fr0 ((Fr0.refl wr).drewN _)))))
                  go_wp2_with fail
                  go_roundw
                  case measure => simp [intOf]; omega
                  case rel => first | exact ⟨j + 1, by go_num, by omega, (F.out).drewN _, _, _, _, _, _, _, hd2, (R.out).fr0 ((Fr0.refl _).drewN _), (V.out).fr0 ((Fr0.refl _).drewN _)⟩ | ((repeat apply Exists.intro); exact ⟨⟨j + 1, by go_num, by omega, (F.out).drewN _, _, _, _, _, _, _, hd2, (R.out).fr0 ((Fr0.refl _).drewN _), (V.out).fr0 ((Fr0.refl _).drewN _)⟩, rfl⟩)
        · have a2 : decide ((j : Int) < (l.length : Int)) = false := by simp; omega
          have AL := Lib.hid hal
          clear hal
          go_wp2_with fail
          go_ret
          exact ⟨rfl, (AL.out).1⟩

namespace WireReads
open Go.ChangeShapes Go.WideShapes Go.ChangeAt
open Go.ChangeMaps (open_string shut_string)

theorem own : ownKnob Try.prog.godebug = none := by kernel_rfl
theorem laidOut : laidOutB Try.prog = true := by kernel_rfl

set_option maxRecDepth 100000 in
theorem lifted (os : Os) (started : os.Started) (H : Type) (enc : TypeId × Value → H) :
    ReturnsInHanded {} Try.checked os 8 .any (Rows.wireReadsSpec.pre6 enc Try.prog Try.f8 Rows.wireReadsRow.domain false) (Rows.wireReadsSpec.post enc Try.prog Try.f8 false true false false) := by
  refine returnsInHanded_of_change (C := Try.checked) own started (by kernel_rfl) Try.func8
    (ChangeSpec.witness6 (enc := enc) (C := Try.checked) false ⟨#[], #[.slice none 0 0, .slice none 0 0], []⟩ 8 (by kernel_rfl) (by kernel_rfl) (by kernel_rfl) (by kernel_rfl)) ?_
  intro W base args ds gs before hval0 hW hcnd _
  have hval : ∀ (j : Nat) t v, Try.f8.params[j]? = some t → args[j]? = some v → Value.okWide Try.prog W .any base t v := hval0
  have hW' := hW
  obtain ⟨p, q, hA0, hV, rfl, hfz, hnd⟩ := hW
  have hA : DataW.TrodAll enc Try.prog W 0 (fun _ => true) true Try.f8.params.toList args.toList ds p := hA0
  rw [Try.params8] at hA hval
  obtain ⟨v0, vs0, d0', ds0, p0, q0, hargs, rfl, rfl, h0, r0⟩ := trodAll_cons hA
  obtain ⟨v1, vs1, d1', ds1, p1, q1, rfl, rfl, rfl, h1, r1⟩ := trodAll_cons r0
  obtain ⟨rfl, rfl, rfl⟩ := trodAll_nil r1
  obtain rfl : args = #[v0, v1] := by cases args; simp_all
  obtain ⟨rfl, rfl⟩ := trodVars_none hV
  have k0 := h0
  have lt0 : ∀ x ∈ p0, x.block < W.heap.size := by obtain ⟨m, hm⟩ := k0; exact DataW.trod_lt m _ _ _ hm
  obtain ⟨A0, n0, c0, rfl⟩ := okWide_slice Try.underlying23 (hval 0 23 v0 rfl rfl)
  obtain ⟨fuel0, hf0⟩ := h0
  obtain ⟨d0, hy0⟩ := arg_bytes Try.underlying23 Try.underlying5 (by kernel_rfl) hf0
  have k1 := h1
  have lt1 : ∀ x ∈ p1, x.block < W.heap.size := by obtain ⟨m, hm⟩ := k1; exact DataW.trod_lt m _ _ _ hm
  obtain ⟨A1, n1, c1, rfl⟩ := okWide_slice Try.underlying41 (hval 1 41 v1 rfl rfl)
  obtain ⟨fuel1, hf1⟩ := h1
  obtain ⟨l1, hy1, hz1⟩ := arg_rows (k := 2) (by decide) Try.underlying41 Try.underlying46 (by kernel_rfl) (by kernel_rfl) (fun j hj => by rcases (by omega : j = 0 ∨ j = 1) with rfl | rfl <;> exact ⟨_, rfl, Try.underlying3⟩) hf1
  clear hA0 hval0
  refine (wireReads_any hy0 hy1 hz1).mono fun e W' ⟨he, hfr⟩ => ?_
  have bel : Below W.heap.size W W' := Fr0.below hfr
  subst he
  exact ⟨_, rfl, _, _, _, [], _, [], hW', trodAll_mk1 (shut_bool Try.underlying4 _), (trodAll_cons_mk (Below.trod laidOut (by kernel_rfl) (of_decide_eq_true (by kernel_rfl)) k0 bel lt0) (trodAll_cons_mk (Below.trod laidOut (by kernel_rfl) (of_decide_eq_true (by kernel_rfl)) k1 bel lt1) trodAll_mk0)), rfl, bel.frame _, fun h => by cases h⟩

theorem over : Rows.wireReadsRow.holds Try.pinned (OpenSpec.ofChange Rows.wireReadsSpec) :=
  OpenClaim.holds_of_wide 8 Try.f8 rfl rfl rfl rfl rfl rfl rfl ⟨rfl, rfl, rfl, rfl, rfl⟩ rfl rfl rfl rfl rfl (by kernel_rfl) Try.func8 (by kernel_rfl)
    (of_decide_eq_true (by kernel_rfl)) (by unfold Func.isWrapper; first | (rw [if_pos (by decide +kernel)]; kernel_rfl) | (rw [if_neg (by decide +kernel)]; exact ⟨rfl, rfl⟩))
    (fun os started H enc _ => lifted os started H enc)

theorem proved : Rows.WireReadsSaid := over
#print axioms proved
end WireReads
end Go.Proofs.Ythgmimeheeajgaa
