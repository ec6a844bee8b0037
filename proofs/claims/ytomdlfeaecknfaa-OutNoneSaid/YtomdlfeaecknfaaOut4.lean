/- The sender's Heard. Conditions stand in the statements. -/
import Derived.Test.YtomdlfeaecknfaaOut3
namespace Go.Proofs.Ytomdlfeaecknfaa
open Go.RowKit

theorem idxS_cases (l : List Snt) (ack : Int) : (∃ k, k < l.length ∧ findN l ack = some k ∧ idxS (fun h => h.n == ack) l = k) ∨ (findN l ack = none ∧ idxS (fun h => h.n == ack) l = -1) := by
  unfold findN idxS
  cases e : l.findIdx? (fun x => x.n == ack) with
  | none => exact .inr ⟨rfl, rfl⟩
  | some k =>
    obtain ⟨hk, _⟩ := List.findIdx?_eq_some_iff_getElem.1 e
    exact .inl ⟨k, hk, rfl, rfl⟩

set_option maxHeartbeats 1000000 in
theorem oheard_any {p : Nat} {fs fd : Value} {A : Option Addr} {c : Nat} {o : OutD} {w : World} (h : OutV w p fs fd A c o) (hn : 0 < o.all.length) (hl : o.all.length ≤ 1000) (ack : Int) :
    Calls Try.prog 13 #[.pointer (some ⟨p, 0, none⟩), .int .i64 ack] w fun e w' => e = .returned (.tuple #[]) ∧ Fr1 p w w' ∧ ∃ A' c', OutV w' p fs fd A' c' (heardP o ack) := by
  have H1 := Lib.hid (h.fr0 ((Fr0.refl w).alloc (.cells #[.int .i64 ack] 3)))
  have HT := Lib.hid (there_yes (H1.out).blk hn)
  have BN := Lib.hid (Blk.new w #[.int .i64 ack] 3)
  have HI := Lib.hid (indexS_any (H1.out).rd (heard1_fn BN.out))
  have c3 : (w.alloc (.cells #[.int .i64 ack] 3)).cell? ⟨p, 3, none⟩ = some (.slice A o.all.length c) := (H1.out).blk.cell 3 rfl
  have hp := h.blk.lt
  obtain ⟨A', c', hv, hnc, hcm, hnone⟩ := h.rd.form
  injection hv with hA _ hcc
  subst hA hcc
  have HH := Lib.hid (show heardP o ack = match findN o.all ack with | some i => withAll o (o.all.drop i) | none => o from rfl)
  obtain ⟨r, hr⟩ : ∃ r, r = heardP o ack := ⟨_, rfl⟩
  rw [← hr] at HH ⊢
  clear h hr
  rcases idxS_cases o.all ack with ⟨k, hk, e1, e2⟩ | ⟨e1, e2⟩
  · rw [e2] at HI
    have HR := Lib.hid ((HH.out).trans (by rw [e1]))
    clear e1 e2 HH
    by_cases k0 : k = 0
    · subst k0
      go_enter Try.func13, Try.ntmps13
      go_wp2_with (first | (go_at_call 25; refine (HT.out).mono ?_; rintro e w' ⟨rfl, rfl⟩) | (go_at_call 29; refine (HI.out).mono ?_; rintro e w1 ⟨rfl, hf⟩; have F := Lib.hid hf; clear hf))
      go_end0
      rw [HR.out]
      exact ⟨rfl, Fr1.of0 (Fr0.trans ((Fr0.refl w).alloc _) F.out), _, _, (H1.out).fr0 F.out⟩
    · have k1 : 0 < k := by omega
      have ik : (0 : Int) < (k : Int) := by omega
      have il : (k : Int) ≤ (o.all.length : Int) := by omega
      have hd := (H1.out).rd.drop (k := k) (by omega) rfl
      rw [if_neg (by omega), flat_drop sntC_len] at hd
      have HD := Lib.hid hd
      clear hd
      go_enter Try.func13, Try.ntmps13
      go_wp2_with (first | (go_at_call 25; refine (HT.out).mono ?_; rintro e w' ⟨rfl, rfl⟩) | (go_at_call 29; refine (HI.out).mono ?_; rintro e w1 ⟨rfl, hf⟩; have F := Lib.hid hf; have e3 : w1.cell? ⟨p, 3, none⟩ = some (.slice A o.all.length c) := ((H1.out).blk.fr0 hf).cell 3 rfl; clear hf) | (go_at_call 31; refine (clone_snt ((HD.out).fr0 F.out) (flat_mem sntC_one _) (by omega)).mono ?_; rintro e w4 ⟨v, rfl, hown, hf⟩; obtain ⟨A4, c4', rfl, hnc4, -, -⟩ := own_form hown; have O := Lib.hid hown; have F4 := Lib.hid hf; have e5 : w4.cell? ⟨p, 3, none⟩ = some (.slice A o.all.length c) := (((H1.out).blk.fr0 F.out).fr0 hf).cell 3 rfl; have f5 : w4.frozen? ⟨p, 3, none⟩ = false := (((H1.out).blk.fr0 F.out).fr0 hf).free 3; clear hown hf))
      go_end0
      rw [HR.out]
      exact ⟨rfl, (Fr1.of0 (Fr0.trans (Fr0.trans ((Fr0.refl w).alloc _) F.out) F4.out)).set 3 _, _, _, OutV.setAll (((H1.out).fr0 F.out).fr0 F4.out) (by simp) O.out⟩
  · rw [e2] at HI
    have HR := Lib.hid ((HH.out).trans (by rw [e1]))
    clear e1 e2 HH
    go_enter Try.func13, Try.ntmps13
    go_wp2_with (first | (go_at_call 25; refine (HT.out).mono ?_; rintro e w' ⟨rfl, rfl⟩) | (go_at_call 29; refine (HI.out).mono ?_; rintro e w1 ⟨rfl, hf⟩; have F := Lib.hid hf; clear hf))
    go_end0
    rw [HR.out]
    exact ⟨rfl, Fr1.of0 (Fr0.trans ((Fr0.refl w).alloc _) F.out), _, _, (H1.out).fr0 F.out⟩
end Go.Proofs.Ytomdlfeaecknfaa
