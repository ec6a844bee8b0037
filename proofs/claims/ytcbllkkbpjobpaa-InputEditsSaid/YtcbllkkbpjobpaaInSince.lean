/- The deeds behind a number. Conditions stand in the statements. -/
import Derived.Test.YtcbllkkbpjobpaaInCopy
set_option linter.unusedVariables false
namespace Go.Proofs.Ytcbllkkbpjobpaa
open Go.RowKit

theorem Rd.cap {w : World} {size n c : Nat} {A : Option Addr} {xs : List Value} (h : Rd w size (.slice A n c) n xs) : Rd w size (.slice A n n) n xs := by
  obtain ⟨A', c', hv, h1, h2, h3⟩ := h.form
  injection hv with hA _ hc
  subst hA hc
  refine ⟨h.len, ⟨A, n, rfl, Nat.le_refl _, by omega, fun hA => by have := h3 hA; omega⟩, fun hn => ?_⟩
  obtain ⟨g, off, c', cur, t, fz, hv, hb, hc⟩ := h.cells hn
  injection hv with hA _ _
  subst hA
  exact ⟨g, off, n, cur, t, fz, rfl, hb, hc⟩
/-- 's[k:len:len]', its value under a name. -/
theorem ds_since {w : World} {A : Option Addr} {c n : Nat} {l : List Dd} (h : Ds w (.slice A n c) l) (hn : n = l.length) {k : Nat} (hk : k ≤ n) :
    ∃ A' , (∀ w', (Instr.slice 22 (.slice A n c) (some (.int .i64 (k : Int))) (some (.int .i64 (n : Int))) (some (.int .i64 (n : Int)))).run Try.prog w' = .ok (.slice A' (n - k) (n - k)) w') ∧ Ds w (.slice A' (n - k) (n - k)) (l.drop k) := by
  subst hn
  have hel : (Try.prog).elem 22 = 28 := by simp [Program.elem, Try.underlying22]
  have hsz : ∀ w', (sizeOf 28).run Try.prog w' = .ok 4 w' := fun w' => by kernel_rfl
  have hnc : l.length ≤ c := by obtain ⟨A', c', hv, h1, _⟩ := h.form; injection hv with _ _ hc; omega
  refine ⟨if l.length = k then A else A.map (·.add (k * 4)), fun w' => ?_, ?_⟩
  · rw [run_slice_lhm (w := w') 22 A l.length c (by rw [hel]; exact Try.underlying22) .i64 .i64 .i64 (k : Int) (l.length : Int) (l.length : Int) (by omega) (by omega) (by omega) (by omega), hel, hsz w']
    simp [Result.andThen, sliced]
  · have h2 : Ds w (.slice A l.length l.length) l := by
      obtain ⟨tv, h1, h2, h3⟩ := h
      have hl : l.length = tv.length := by rw [← h1, List.length_map]
      rw [hl] at h2 ⊢
      exact ⟨tv, h1, h2.cap, h3⟩
    exact h2.drop hk
def sinceK (b : Int) (n : Nat) (m : Int) : Nat := min (m - b).toNat n
def sinceL (b : Int) (l : List Dd) (m : Int) : List Dd := if mayS b l then l.drop (sinceK b l.length m) else []
set_option maxHeartbeats 2000000 in
theorem since_any {b m : Int} {A : Option Addr} {c : Nat} {l : List Dd} {w : World} (h : Ds w (.slice A l.length c) l) (hm : -9223372036854775808 ≤ m ∧ m ≤ 9223372036854775807) :
    Calls Try.prog 13 #[.agg #[.int .i64 b, .slice A l.length c], .int .i64 m] w fun e w' => ∃ B c', e = .returned (.slice B (sinceL b l m).length c') ∧ DsG (SlO w.heap.size) w.heap.size w' (.slice B (sinceL b l m).length c') (sinceL b l m) ∧ Fr0 w w' := by
  have FA := Lib.hid ((Fr0.refl w).alloc (.cells #[.int .i64 b, .slice A l.length c] 24))
  have HM := Lib.hid (mayS_any (b := b) (h.fr0 FA.out))
  have BX := Lib.hid (Blk.new w #[.int .i64 b, .slice A l.length c] 24)
  have H := Lib.hid (h.fr0 FA.out)
  clear h
  by_cases hs : mayS b l = true
  · obtain ⟨i1, i2, i3, i4⟩ := mayS_bnd hs
    rw [hs] at HM
    have HS := Lib.hid (show sinceL b l m = l.drop (sinceK b l.length m) by unfold sinceL; rw [if_pos hs])
    have HT := Lib.hid (fun x (hx : x ∈ l.drop (sinceK b l.length m)) => show x.t.length ≤ 1000000 from by have := mayD_len (i4 x (List.mem_of_mem_drop hx)); omega)
    obtain ⟨k, hk⟩ : ∃ k, k = sinceK b l.length m := ⟨_, rfl⟩
    have hkn : k ≤ l.length := by rw [hk]; unfold sinceK; omega
    have hkv : (k : Int) = min (max m b - b) (l.length : Int) := by rw [hk]; unfold sinceK; omega
    obtain ⟨A', hrun, hds⟩ := ds_since H.out rfl hkn
    rw [← hk] at HS HT
    have HCO := Lib.hid (fun W (hf : Fr0 (w.alloc (.cells #[.int .i64 b, .slice A l.length c] 24)) W) => copied_any (l := l.drop k) (A := A') (c := l.length - k) (w := W) (by rw [List.length_drop]; exact hds.fr0 hf) (by rw [List.length_drop]; omega) HT.out)
    obtain ⟨L, hL⟩ : ∃ L, L = sinceL b l m := ⟨_, rfl⟩
    rw [← hL] at HS ⊢
    have HK := Lib.hid hkv
    have HRUN := Lib.hid hrun
    have HLN := Lib.hid (show L.length = l.length - k by rw [HS.out, List.length_drop])
    have HCO2 := Lib.hid (fun W (hf : Fr0 (w.alloc (.cells #[.int .i64 b, .slice A l.length c] 24)) W) => show Calls Try.prog 27 #[.slice A' (l.length - k) (l.length - k)] W fun e w' => ∃ B c', e = .returned (.slice B L.length c') ∧ DsG (SlO W.heap.size) W.heap.size w' (.slice B L.length c') L ∧ Fr0 W w' from by
      have := HCO.out W hf
      rw [List.length_drop] at this
      rw [HS.out, List.length_drop]
      exact this)
    obtain ⟨n, hn⟩ : ∃ n, n = l.length := ⟨_, rfl⟩
    rw [← hn] at FA HM BX HK HRUN HCO2 i2 i3 hkn ⊢
    have i5 := hm.1
    have i6 := hm.2
    clear hds hrun hkv hk hL hn i4 hs HCO HT HS HLN H hm
    go_enter Try.func13, Try.ntmps13
    go_upto_region 3 with (first
      | (go_at_call 22; refine (HM.out).mono ?_; rintro e w1 ⟨rfl, hf⟩; have F1 := Lib.hid hf; have c0 := ((BX.out).fr0 hf).cell 0 rfl; have c1 := ((BX.out).fr0 hf).cell 1 rfl; clear hf))
    go_cut [5] (fun s wx => s = .int .i64 (k : Int) ∧ wx = w1)
    case first =>
      go_wp2_with fail
      all_goals go_meet
      all_goals (refine ⟨congrArg (Value.int .i64) ?_, rfl⟩; have hk := HK.out; rename_i hx hy; first | (rw [if_pos hy] at hx; omega) | (rw [if_neg (by omega)] at hx; omega) | omega)
    case rest =>
      obtain ⟨rfl, rfl⟩ := hcut
      have hrun := HRUN.out
      go_wp2_with (first
        | (go_at_call 27; refine (HCO2.out _ F1.out).mono ?_; rintro e w2 ⟨B2, c2, rfl, hd, hf⟩; have D2 := Lib.hid (hd.mono (T2 := SlO w.heap.size) (show w.heap.size ≤ wc.heap.size by have h1 := (FA.out).size; have h2 := (F1.out).size; omega) (fun v t h => h.low (by have h1 := (FA.out).size; have h2 := (F1.out).size; omega))); have F2 := Lib.hid (Fr0.trans FA.out (Fr0.trans F1.out hf)); clear hd hf))
      go_ret
      exact ⟨_, _, rfl, D2.out, F2.out⟩
  · have hs0 : mayS b l = false := by simpa using hs
    rw [hs0] at HM
    have HS := Lib.hid (show sinceL b l m = [] by unfold sinceL; rw [if_neg hs])
    obtain ⟨L, hL⟩ : ∃ L, L = sinceL b l m := ⟨_, rfl⟩
    rw [← hL] at HS ⊢
    obtain ⟨n, hn⟩ : ∃ n, n = l.length := ⟨_, rfl⟩
    rw [← hn] at FA HM ⊢
    clear hs hs0 BX H hL hn
    go_enter Try.func13, Try.ntmps13
    go_wp2_with (first
      | (go_at_call 22; refine (HM.out).mono ?_; rintro e w1 ⟨rfl, hf⟩; have F1 := Lib.hid hf; clear hf))
    go_ret
    exact ⟨none, 0, by rw [HS.out]; rfl, by rw [HS.out]; exact DsG.nil _ _ _, Fr0.trans FA.out F1.out⟩
end Go.Proofs.Ytcbllkkbpjobpaa
