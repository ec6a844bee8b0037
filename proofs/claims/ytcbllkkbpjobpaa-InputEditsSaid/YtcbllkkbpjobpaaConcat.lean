/- slices.Concat of bytes. Conditions stand in the statements. -/
import Derived.Test.YtcbllkkbpjobpaaWApp
import Derived.Lib.AppendZeros
namespace Go.Proofs.Ytcbllkkbpjobpaa
open Go.RowKit

theorem zeros_size (n : Nat) : (Builtin.zeroCells (Value.int .u8 0).cells n).size = n := by
  show (Builtin.zeroCells #[.int .u8 0] n).size = n
  simp [Builtin.zeroCells]

theorem slice_to0 {P : Program} {T e : TypeId} (ht : P.underlying T = some (.slice e)) (hs : ∀ w, (sizeOf e).run P w = .ok 1 w) (A : Option Addr) (n c : Nat) (w : World) :
    (Instr.slice T (.slice A n c) none (some (.int .i64 0)) none).run P w = .ok (.slice A 0 c) w := by
  have hel : P.elem T = e := by simp [Program.elem, ht]
  rw [run_slice_h (w := w) T A n c (by rw [hel]; exact ht) .i64 0 (by omega) (by omega), hel, hs w]
  simp [Result.andThen, sliced, Addr.add]

set_option maxHeartbeats 400000 in
theorem grow_any (n : Nat) (hn : n ≤ 10000000) (w : World) :
    Calls Try.prog 56 #[.slice none 0 0, .int .i64 (n : Int)] w fun e w' => ∃ A c, e = .returned (.slice A 0 c) ∧ w'.ownsRow w.heap.size 5 1 (.slice A 0 c) 0 (byts []) ∧ Fr0 w w' := by
  obtain ⟨i0, hi, hz0, hz1, hz2⟩ := info_parts infoU8
  rcases Nat.eq_zero_or_pos n with h0 | h0
  · subst h0
    go_enter Try.func56, Try.ntmps56
    go_wp2_with fail
    go_ret
    exact ⟨none, 0, rfl, World.ownsRow_nil _ _ _ _, Fr0.refl _⟩
  · have q0 : decide ((n : Int) < 0) = false := by simp
    have q1 : decide (0 < (n : Int)) = true := by simp; omega
    have q2 : decide (0 < n) = true := by simpa using h0
    have y0 : IntKind.i64.wrap ((n : Int) - 0) = (n : Int) := by rw [IntWalk.i64_in _ (by omega)]; omega
    have y1 : IntKind.i64.wrap (n : Int) = (n : Int) := IntWalk.i64_in _ (by omega)
    have hrun := Lib.run_append_nil_zeros (P := Try.prog) w 26 3 26 5 i0 (.int .u8 0) .i64 .i64 Try.underlying26 Try.underlying3 hi hz0 n h0 (by omega) (by omega) (by rw [hz2]; omega)
    have HR := Lib.hid hrun
    have hge := grownCap_ge w n 0 5
    have hle := grownCap_le_maxLen w n 0 5 (by unfold maxLen; omega)
    obtain ⟨c, hc⟩ : ∃ c, c = grownCap w n 0 5 := ⟨_, rfl⟩
    rw [← hc] at HR hge hle
    have hsz : (Builtin.zeroCells (Value.int .u8 0).cells n ++ Builtin.zeroCells (Value.int .u8 0).cells (c - n)).size = c * 1 := by rw [Array.size_append, zeros_size, zeros_size]; omega
    have hown := own_of_block (size := 1) (base := w.heap.size) (heap_alloc_new w.drew (.cells (Builtin.zeroCells (Value.int .u8 0).cells n ++ Builtin.zeroCells (Value.int .u8 0).cells (c - n)) 5)) (Nat.le_refl w.heap.size) (Nat.zero_le c) hle hsz
    have HO := Lib.hid hown
    obtain ⟨cur, hcur⟩ : ∃ cur, cur = Builtin.zeroCells (Value.int .u8 0).cells n ++ Builtin.zeroCells (Value.int .u8 0).cells (c - n) := ⟨_, rfl⟩
    rw [← hcur] at HO HR
    have hsl := slice_to0 (P := Try.prog) (T := 26) (e := 5) Try.underlying26 (fun _ => by kernel_rfl) (some ⟨w.heap.size, 0, none⟩) n c
    clear hrun hc hsz hown hcur hi hz0 hz1 hz2
    go_enter Try.func56, Try.ntmps56
    go_wp2_with (at_builtin; refine Lib.wpList_append_run _ rfl _ _ 26 3 rfl (.slice none 0 0) (.int .i64 (n : Int)) (by rfl) (by rfl) _ _ HR.out ?_)
    go_ret
    have ho : (w.drew.alloc (.cells cur 5)).ownsRow w.heap.size 5 1 (.slice (some ⟨w.heap.size, 0, none⟩) 0 c) 0 (byts []) := by simpa [byts] using HO.out
    exact ⟨_, _, rfl, own_fr (S := fun _ => False) (w' := (w.alloc (.cells cur 5)).drew) ho ⟨rfl, rfl, rfl, Nat.le_refl _, fun _ _ _ => rfl⟩ (fun _ h => (fun h => h)), ((Fr0.refl w).alloc _).drew⟩

/-- Slices of bytes in a row: their values, what they read as. -/
structure Parts (w : World) (v : Value) (l : List (Value × List UInt8)) : Prop where
  rd : Rd w 1 v l.length (l.map (·.1))
  each : ∀ x ∈ l, RdB w x.1 x.2
theorem Parts.fr0 {w w' : World} {v : Value} {l : List (Value × List UInt8)} (h : Parts w v l) (hf : Fr0 w w') : Parts w' v l := ⟨h.rd.fr0 hf, fun x hx => (h.each x hx).fr0 hf⟩
def joined (l : List (Value × List UInt8)) : List UInt8 := l.flatMap (·.2)
theorem joined_take (l : List (Value × List UInt8)) (i : Nat) (h : i < l.length) : joined (l.take (i + 1)) = joined (l.take i) ++ l[i].2 := by
  rw [joined, joined, List.take_succ_eq_append_getElem h, List.flatMap_append]; simp
theorem joined_le (l : List (Value × List UInt8)) (i : Nat) : (joined (l.take i)).length ≤ (joined l).length := by
  have : joined l = joined (l.take i) ++ joined (l.drop i) := by rw [joined, joined, joined, ← List.flatMap_append, List.take_append_drop]
  rw [this, List.length_append]; omega

set_option maxHeartbeats 1000000 in
theorem concat_any {v : Value} {l : List (Value × List UInt8)} {w : World} (h : Parts w v l) (hn : (joined l).length ≤ 10000000) :
    Calls Try.prog 46 #[v] w fun e w' => ∃ v', e = .returned v' ∧ w'.ownsRow w.heap.size 5 1 v' (joined l).length (byts (joined l)) ∧ Fr0 w w' := by
  obtain ⟨A, c, rfl, hnc, hcm, hnone⟩ := h.rd.form
  have l63 := h.rd.le63
  have H := Lib.hid h
  clear h
  go_enter Try.func46, Try.ntmps46
  go_wp2_with fail
  go_loopw [3, 11] (fun v3 v11 wr => wr = w ∧ ∃ i : Nat, v11 = .int .i64 (i : Int) ∧ i ≤ l.length ∧ v3 = .int .i64 ((joined (l.take i)).length : Nat)) (fun _ v11 _ => l.length - (intOf v11).toNat)
  case atStart => exact ⟨rfl, 0, rfl, by omega, by simp [joined]⟩
  case round =>
    obtain ⟨hww, i, rfl, hi, rfl⟩ := hrel
    obtain rfl : w = wr := hww.symm
    by_cases hlt : i < l.length
    · have a1 : decide ((i : Int) < (l.length : Int)) = true := by simp; omega
      have i1 : (i : Int) < (l.length : Int) := by omega
      obtain ⟨g, off, hA, hic, _, hcell⟩ := (H.out).rd.cellA hlt
      have e0 := hcell 0 (l[i].1) (by simp [hlt])
      simp only [Nat.mul_one, Nat.add_zero] at e0
      have hrd := (H.out).each _ (List.getElem_mem hlt)
      obtain ⟨Ai, ci, hvi, -, -, -⟩ := hrd.form
      rw [hvi] at e0
      have hj := congrArg List.length (joined_take l i hlt)
      rw [List.length_append] at hj
      have hle := joined_le l (i + 1)
      have hle0 := joined_le l i
      obtain ⟨q, hq⟩ : ∃ q, q = l[i].2.length := ⟨_, rfl⟩
      rw [← hq] at e0 hj
      obtain ⟨s0, hs0⟩ : ∃ s, s = (joined (l.take i)).length := ⟨_, rfl⟩
      obtain ⟨s1, hs1⟩ : ∃ s, s = (joined (l.take (i + 1))).length := ⟨_, rfl⟩
      rw [← hs0, ← hs1] at hj
      rw [← hs1] at hle
      rw [← hs0]
      have y0 : IntKind.i64.wrap ((s0 : Int) + (q : Int)) = (s1 : Int) := by rw [IntWalk.i64_in _ (by omega)]; omega
      have z0 : decide ((s1 : Int) < 0) = false := by simp
      have HS := Lib.hid hs1
      subst hA
      clear hcell hrd hvi hq hs0 hs1 hj hle hle0
      go_wp2_with fail
      go_roundw
      case rel => exact ⟨trivial, i + 1, by go_num, by omega, by rw [HS.out]⟩
      case measure => simp [intOf]; omega
    · have a1 : decide ((i : Int) < (l.length : Int)) = false := by simp; omega
      have hil : i = l.length := by omega
      subst hil
      rw [List.take_length]
      obtain ⟨s, hs⟩ : ∃ s, s = (joined l).length := ⟨_, rfl⟩
      rw [← hs]
      have HG := Lib.hid (grow_any s (by omega) w)
      have HS := Lib.hid hs
      clear hs
      go_wp2_with (go_at_call 56; refine (HG.out).mono ?_; rintro x w2 ⟨A2, c2, rfl, hown, hf⟩; have O := Lib.hid hown; have F := Lib.hid hf; clear hown hf)
      go_loopw [6, 27] (fun v6 v27 wr => ∃ (i : Nat) (A3 : Option Addr) (c3 k : Nat), v27 = .int .i64 (i : Int) ∧ i ≤ l.length ∧ v6 = .slice A3 k c3 ∧ k = (joined (l.take i)).length ∧ Fr0 w wr ∧ wr.ownsRow w.heap.size 5 1 (.slice A3 k c3) k (byts (joined (l.take i)))) (fun _ v27 _ => l.length - (intOf v27).toNat)
      case atStart => exact ⟨0, A2, c2, 0, rfl, by omega, rfl, by simp [joined], F.out, by simpa [joined] using O.out⟩
      case round =>
        clear O F
        obtain ⟨j, A3, c3, k, rfl, hj, rfl, hk, hf, hown⟩ := hrel
        by_cases hlt : j < l.length
        · have a2 : decide ((j : Int) < (l.length : Int)) = true := by simp; omega
          have i1 : (j : Int) < (l.length : Int) := by omega
          obtain ⟨g, off, hA, hic, _, hcell⟩ := ((H.out).fr0 hf).rd.cellA hlt
          have e0 := hcell 0 (l[j].1) (by simp [hlt])
          simp only [Nat.mul_one, Nat.add_zero] at e0
          have hrd := ((H.out).fr0 hf).each _ (List.getElem_mem hlt)
          obtain ⟨Ai, ci, hvi, -, -, -⟩ := hrd.form
          rw [hvi] at e0 hrd
          have hj2 := congrArg List.length (joined_take l j hlt)
          rw [List.length_append] at hj2
          have hle := joined_le l (j + 1)
          have hb : k + l[j].2.length ≤ 10000000 := by omega
          have HB := Lib.hid hb
          have RD := Lib.hid hrd
          have HJ := Lib.hid (joined_take l j hlt)
          obtain ⟨q, hq⟩ : ∃ q, q = l[j].2 := ⟨_, rfl⟩
          rw [← hq] at e0 RD HJ HB
          have O := Lib.hid hown
          have F := Lib.hid hf
          have HK := Lib.hid hk
          subst hA
          clear hcell hrd hvi hq hj2 hle hb hown hf hk
          go_wp2_with (at_builtin; refine app_bytes rfl _ _ rfl F.out O.out (by rfl) (RD.out) (by rfl) (Nat.le_trans HB.out (by decide)) ?_; intro A4 c4 w4 hown hf; replace F := Lib.hid hf; replace O := Lib.hid hown; clear hf hown)
          go_roundw
          case rel => exact ⟨j + 1, A4, c4, k + q.length, by go_num, by omega, rfl, by rw [HJ.out, List.length_append, ← HK.out], F.out, by rw [HJ.out]; exact O.out⟩
          case measure => simp [intOf]; omega
        · have a2 : decide ((j : Int) < (l.length : Int)) = false := by simp; omega
          have hjl : j = l.length := by omega
          subst hjl
          rw [List.take_length] at hk hown
          subst hk
          have O := Lib.hid hown
          have F := Lib.hid hf
          clear hown hf
          go_wp2_with fail
          go_ret
          exact ⟨_, rfl, O.out, F.out⟩
end Go.Proofs.Ytcbllkkbpjobpaa
