/- Deeds in new memory. Conditions stand in the statements. -/
import Derived.Test.YtcbllkkbpjobpaaInSame
import Derived.Test.YtcbllkkbpjobpaaBClone
set_option linter.unusedVariables false
namespace Go.Proofs.Ytcbllkkbpjobpaa
open Go.RowKit

theorem rd_dd {w : World} {g : Nat} {x : Dd} {B : Option Addr} {e : Nat} (h : Blk w g (ddA x B e) 28) : Rd w 4 (.slice (some ⟨g, 0, none⟩) 1 1) 1 (flat ddC [((.slice B x.t.length e : Value), x)]) :=
  ⟨by rw [flat_len ddC_len]; rfl, ⟨_, _, rfl, Nat.le_refl _, by unfold maxLen; omega, fun h => by cases h⟩, fun _ => ⟨g, 0, 1, _, _, _, rfl, h, fun j u hu => by rw [Nat.zero_add]; simpa [flat, ddC, ddA] using hu⟩⟩
/-- One deed more, its text in new memory. -/
theorem ds_put {w wr w1 : World} {g5 : Nat} {v : Value} {l : List Dd} {x : Dd} {b : Value} {A1 : Option Addr} {e1 : Nat} (hf : Fr0 w wr) (D : DsG (SlO w.heap.size) w.heap.size wr v l) (hg : wr.heap.size ≤ g5)
    (h1 : Fr0 wr w1) (hb : Blk w1 g5 #[.int .i64 x.kind, b, .int .i64 x.rows, .int .i64 x.cols] 28) (ht : SlO w.heap.size w1 (.slice A1 x.t.length e1) x.t) :
    Fr0 wr (w1.setCell ⟨g5, 1, none⟩ (.slice A1 x.t.length e1)) ∧ Blk (w1.setCell ⟨g5, 1, none⟩ (.slice A1 x.t.length e1)) g5 (ddA x A1 e1) 28 ∧ SlO w.heap.size (w1.setCell ⟨g5, 1, none⟩ (.slice A1 x.t.length e1)) (.slice A1 x.t.length e1) x.t := by
  have f1 : Fr1 g5 w1 (w1.setCell ⟨g5, 1, none⟩ (.slice A1 x.t.length e1)) := (Fr1.refl g5 w1).set 1 _
  exact ⟨Fr0.new h1 f1 hg, hb.set 1 _, ht.fr1 f1 hb (by decide)⟩
theorem Blk.newS (w : World) (p : Addr) (u : Value) (vs : Array Value) (t : TypeId) : Blk ((w.setCell p u).alloc (.cells vs t)) w.heap.size vs t := by
  have := Blk.new (w.setCell p u) vs t
  rwa [show (w.setCell p u).heap.size = w.heap.size from by simp [World.setCell]] at this
theorem dd_cells {w : World} {g : Nat} {x : Dd} {A : Option Addr} {e : Nat} (h : Blk w g (ddA x A e) 28) : w.cell? ⟨g, 0, none⟩ = some (.int .i64 x.kind) ∧ w.cell? ⟨g, 1, none⟩ = some (.slice A x.t.length e) ∧ w.cell? ⟨g, 2, none⟩ = some (.int .i64 x.rows) ∧ w.cell? ⟨g, 3, none⟩ = some (.int .i64 x.cols) :=
  ⟨h.cell 0 rfl, h.cell 1 rfl, h.cell 2 rfl, h.cell 3 rfl⟩
set_option maxHeartbeats 2000000 in
theorem copied_any {A : Option Addr} {c : Nat} {l : List Dd} {w : World} (h : Ds w (.slice A l.length c) l) (hn : l.length ≤ 100000) (ht : ∀ x ∈ l, x.t.length ≤ 1000000) :
    Calls Try.prog 27 #[.slice A l.length c] w fun e w' => ∃ B c', e = .returned (.slice B l.length c') ∧ DsG (SlO w.heap.size) w.heap.size w' (.slice B l.length c') l ∧ Fr0 w w' := by
  have H := Lib.hid h
  have HT := Lib.hid ht
  obtain ⟨n, hnl⟩ : ∃ n, n = l.length := ⟨_, rfl⟩
  have HL := Lib.hid hnl
  rw [← hnl] at H hn ⊢
  clear h ht hnl
  go_enter Try.func27, Try.ntmps27
  go_wp2_with fail
  go_loopw [3, 8] (fun v3 v8 wr => ∃ (k : Nat) (B : Option Addr) (c' : Nat), k ≤ n ∧ v3 = .slice B k c' ∧ v8 = .int .i64 k ∧ Fr0 w wr ∧ Hid (DsG (SlO w.heap.size) w.heap.size wr (.slice B k c') (l.take k))) (fun _ v8 _ => n - (intOf v8).toNat)
  case atStart => exact ⟨0, none, 0, Nat.zero_le _, rfl, rfl, Fr0.refl _, Lib.hid (by rw [List.take_zero]; exact DsG.nil _ _ _)⟩
  case round =>
    obtain ⟨k, B, c', hk, rfl, rfl, hfr, hD⟩ := hrel
    by_cases hlt : k < n
    · have i1 : (k : Int) < (n : Int) := by omega
      have p1 : k < l.length := by have := HL.out; omega
      have hx := ((H.out).fr0 hfr).cell (i := k) p1
      have HTX := Lib.hid (HT.out _ (List.getElem_mem p1))
      have HTK := Lib.hid (List.take_succ_eq_append_getElem p1)
      obtain ⟨x, hx1⟩ : ∃ x, x = l[k] := ⟨_, rfl⟩
      rw [← hx1] at hx HTX HTK
      obtain ⟨g, off, B1, e1, rfl, hkc, hgl, d0, d1, d2, d3, hr⟩ := hx
      clear p1 hx1
      have HKL := Lib.hid (show (l.take k).length = k by rw [List.length_take]; have := HL.out; omega)
      obtain ⟨lk, hlk⟩ : ∃ m, m = l.take k := ⟨_, rfl⟩
      rw [← hlk] at HTK HKL hD
      have F0 := Lib.hid ((Fr0.refl wr).alloc (.cells #[.int .i64 x.kind, .slice B1 x.t.length e1, .int .i64 x.rows, .int .i64 x.cols] 28))
      have B0 := Lib.hid (Blk.new wr #[.int .i64 x.kind, .slice B1 x.t.length e1, .int .i64 x.rows, .int .i64 x.cols] 28)
      have HC := Lib.hid (bclone_any (hr.fr0 F0.out) HTX.out)
      have F := Lib.hid hfr
      clear hr hfr hlk
      go_wp2_with (first
        | (go_at_call 43; refine (HC.out).mono ?_; rintro e w1 ⟨v1, rfl, hs, hf⟩; obtain ⟨A1, c1, rfl, -⟩ := hs.form; have P := Lib.hid (ds_put F.out hD.out (Nat.le_refl _) (Fr0.trans F0.out hf) ((B0.out).fr0 hf) (hs.low (by have h1 := (F.out).size; have h2 := (F0.out).size; omega))); have f0 := ((B0.out).fr0 hf).free 1; have e0 := ((B0.out).fr0 hf).cell 0 rfl; have e1 := ((B0.out).fr0 hf).cell 1 rfl; have e2 := ((B0.out).fr0 hf).cell 2 rfl; have e3 := ((B0.out).fr0 hf).cell 3 rfl; clear hs hf)
        | (at_builtin; have _q := P; go_loud (have hW := Fr0.trans F.out (P.out).1; refine list_append_ds (n := k) (m := 1) (base := w.heap.size) (T := SlO w.heap.size) (l2 := [(_, x)]) rfl _ _ rfl (by have := hW.size; simp at this ⊢; omega) ((hD.out).fr0 ((P.out).1.alloc _) (fun v t h => h.fr0 ((P.out).1.alloc _))) rfl HKL.out rfl (rd_dd (Blk.newS w1 _ _ (ddA x A1 c1) 28)) rfl (by intro y hy; rw [List.mem_singleton] at hy; subst hy; exact (((P.out).2.2).fr0 ((Fr0.refl _).alloc _)).rd) (by omega) (fun w' hf v t h => slo_keep ((hD.out).fr0 ((P.out).1.alloc _) (fun v t h => h.fr0 ((P.out).1.alloc _))) hf h) (fun w' hf y hy => by rw [List.mem_singleton] at hy; subst hy; exact slo_keep ((hD.out).fr0 ((P.out).1.alloc _) (fun v t h => h.fr0 ((P.out).1.alloc _))) hf (((P.out).2.2).fr0 ((Fr0.refl _).alloc _))) ?_; intro A2 c2 w4 hD2 hf2; have D2 := Lib.hid hD2; have F2 := Lib.hid (show Fr0 w w4 from Fr.then (hW.alloc _) hf2 (fun i hi hl => by have := ((hD.out).lo i hi).1; omega)); clear hD2 hf2 hW)))
      go_roundw
      case measure => simp [intOf]; omega
      case rel => exact ⟨k + 1, _, _, by omega, rfl, by go_num, F2.out, Lib.hid (by rw [HTK.out]; exact D2.out)⟩
    · obtain rfl : k = n := by omega
      have F := Lib.hid hfr
      clear hfr
      have D := Lib.hid (show DsG (SlO w.heap.size) w.heap.size wr (.slice B k c') l from by have := hD.out; rw [HL.out, List.take_length] at this; rw [HL.out]; exact this)
      clear hD
      go_wp2_with fail
      go_ret
      exact ⟨_, _, rfl, D.out, F.out⟩
end Go.Proofs.Ytcbllkkbpjobpaa
