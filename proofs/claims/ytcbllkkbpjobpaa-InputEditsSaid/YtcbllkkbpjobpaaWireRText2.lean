/- The reader's Text and Rest. Conditions stand in the statements. -/
import Derived.Test.YtcbllkkbpjobpaaWireRText
namespace Go.Proofs.Ytcbllkkbpjobpaa
open Go.RowKit

/-- What Text answers, what is left, the error. -/
def rText (d : List UInt8) (e : Int) (most : Int) : List UInt8 × List UInt8 × Int :=
  if e ≠ 0 then ([], d, e) else if (tStep d most).2.1 ≠ 0 then ([], d, (tStep d most).2.1) else ((d.take (tStep d most).1).drop (tStep d most).2.2, d.drop (tStep d most).1, 0)

theorem tStep_facts (d : List UInt8) (most : Int) : ((tStep d most).2.1 = 0 → (tStep d most).1 ≤ d.length ∧ (tStep d most).2.2 ≤ (tStep d most).1) ∧ ((tStep d most).2.1 ≠ 0 → (tStep d most).2.2 = 0) := by
  have h := (rdNum_lt d 0 0).1
  rw [show rdNum d 0 0 = rd d from rfl] at h
  unfold tStep
  split
  · simp
  · split
    · simp
    · split
      · simp
      · simp; omega

theorem text1_step {p b0 b1 b2 : Nat} {A : Option Addr} {c : Nat} {d : List UInt8} {most : Int} {w : World} (h : RdrV w p A c d 0) (hn : d.length ≤ 100000000) (hm : -9223372036854775808 ≤ most ∧ most ≤ 9223372036854775807)
    (h0 : Blk w b0 #[.pointer (some ⟨p, 0, none⟩)] 52) (h1 : Blk w b1 #[.int .i64 most] 3) (h2 : Blk w b2 #[.int .i64 0] 3) :
    StepFn w p A c d (.func (.func 50) #[] #[.pointer (some ⟨b0, 0, none⟩), .pointer (some ⟨b1, 0, none⟩), .pointer (some ⟨b2, 0, none⟩)]) (tStep d most).1 (tStep d most).2.1
      (fun w' => Fr1 b2 w w' ∧ Blk w' b2 #[.int .i64 ((tStep d most).2.2 : Nat)] 3) :=
  ⟨⟨_, _, _, rfl, fun args w1 => by kernel_rfl, text1_any h hn hm h0 h1 h2⟩, by rintro w' ⟨hf, _⟩; exact h.frT h2 (by decide) (by decide) hf, fun he => ((tStep_facts d most).1 he).1⟩

/-- What take leaves for Text: the slice behind the head, ready to be cut. -/
theorem text_take {p : Nat} {A : Option Addr} {c : Nat} {d : List UInt8} {most : Int} {w wa : World} {b0 b1 b2 : Nat} (h : RdrV wa p A c d 0) (hn : d.length ≤ 100000000) (hm : -9223372036854775808 ≤ most ∧ most ≤ 9223372036854775807) (hfa : Fr0 w wa)
    (h0 : Blk wa b0 #[.pointer (some ⟨p, 0, none⟩)] 52) (h1 : Blk wa b1 #[.int .i64 most] 3) (h2 : Blk wa b2 #[.int .i64 0] 3) (hb : w.heap.size ≤ b2) :
    Calls Try.prog 48 #[.pointer (some ⟨p, 0, none⟩), .func (.func 50) #[] #[.pointer (some ⟨b0, 0, none⟩), .pointer (some ⟨b1, 0, none⟩), .pointer (some ⟨b2, 0, none⟩)]] wa fun x w2 =>
      ∃ Av nv cv A2 c2 hd, x = .returned (.slice Av nv cv) ∧ w2.cell? ⟨b2, 0, none⟩ = some (.int .i64 hd) ∧ (∀ w', (Instr.slice 26 (.slice Av nv cv) (some (.int .i64 hd)) none none).run Try.prog w' = .ok (.slice A2 (rText d 0 most).1.length c2) w') ∧
        RdB w2 (.slice A2 (rText d 0 most).1.length c2) (rText d 0 most).1 ∧ Fr1 p w w2 ∧ ∃ A' c', RdrV w2 p A' c' (rText d 0 most).2.1 (rText d 0 most).2.2 := by
  refine (take_any h (text1_step h hn hm h0 h1 h2)).mono ?_
  rintro x w2 ⟨w1, v, rfl, ⟨hg1, hg2⟩, hf, k1, k2⟩
  obtain ⟨s1, s2⟩ := tStep_facts d most
  have hne : b2 ≠ p := h2.ne h.blk (by decide)
  have g2 := hg2.fr1 hf hne
  have hfull : Fr1 p w w2 := ((Fr1.of0 (Fr0.new hfa hg1 hb)).trans hf)
  by_cases hk : (tStep d most).2.1 = 0
  · have e2 : rText d 0 most = ((d.take (tStep d most).1).drop (tStep d most).2.2, d.drop (tStep d most).1, 0) := by unfold rText; rw [if_neg (by simp), if_neg (by simpa using hk)]
    obtain ⟨⟨A', c', h3⟩, rfl, h4, h5⟩ := k2 hk
    obtain ⟨j1, j2⟩ := s1 hk
    have hl : (d.take (tStep d most).1).length = (tStep d most).1 := by rw [List.length_take]; omega
    have h4' : RdB w2 (.slice A (d.take (tStep d most).1).length c) (d.take (tStep d most).1) := by rw [hl]; exact h4
    obtain ⟨A2, hsl, hr2, hbk⟩ := slice_from (P := Try.prog) (T := 26) (e := 5) Try.underlying26 (fun _ => by kernel_rfl) (k := (tStep d most).2.2) h4' (by omega) ((tStep d most).2.2 : Int) rfl
    rw [hl] at hsl hr2
    have hl2 : ((d.take (tStep d most).1).drop (tStep d most).2.2).length = (tStep d most).1 - (tStep d most).2.2 := by rw [List.length_drop, hl]
    rw [e2]
    simp only [hl2]
    exact ⟨A, _, c, A2, _, _, rfl, g2.cell 0 rfl, hsl, hr2, hfull, A', c', h3⟩
  · have e1 : rText d 0 most = ([], d, (tStep d most).2.1) := by unfold rText; rw [if_neg (by simp), if_pos hk]
    obtain ⟨rfl, h3⟩ := k1 hk
    rw [s2 hk] at g2
    obtain ⟨A2, hsl, hr2, hbk⟩ := slice_from (P := Try.prog) (T := 26) (e := 5) Try.underlying26 (fun _ => by kernel_rfl) (w := w2) (A := none) (c := 0) (d := []) (k := 0) (RdB.nil w2) (by simp) (0 : Int) rfl
    rw [e1]
    exact ⟨none, 0, 0, A2, _, _, rfl, g2.cell 0 rfl, hsl, hr2, hfull, A, c, h3⟩

set_option maxHeartbeats 400000 in
theorem rtext_any {p : Nat} {A : Option Addr} {c : Nat} {d : List UInt8} {e : Int} {most : Int} {w : World} (h : RdrV w p A c d e) (hn : d.length ≤ 100000000) (hm : -9223372036854775808 ≤ most ∧ most ≤ 9223372036854775807) :
    Calls Try.prog 33 #[.pointer (some ⟨p, 0, none⟩), .int .i64 most] w fun x w' => ∃ v, x = .returned v ∧ w'.ownsRow w.heap.size 5 1 v (rText d e most).1.length (byts (rText d e most).1) ∧ Fr1 p w w' ∧ ∃ A' c', RdrV w' p A' c' (rText d e most).2.1 (rText d e most).2.2 := by
  have H := Lib.hid h
  have hplt := h.blk.lt
  obtain ⟨wa, hwa⟩ : ∃ wa, wa = ((w.alloc (.cells #[.pointer (some ⟨p, 0, none⟩)] 52)).alloc (.cells #[.int .i64 most] 3)).alloc (.cells #[.int .i64 0] 3) := ⟨_, rfl⟩
  have hfa : Fr0 w wa := by rw [hwa]; exact (((Fr0.refl w).alloc _).alloc _).alloc _
  have ha := h.fr0 hfa
  have b0 : Blk wa w.heap.size #[.pointer (some ⟨p, 0, none⟩)] 52 := by rw [hwa]; exact ((Blk.new _ _ _).alloc _).alloc _
  have b1 : Blk wa (w.heap.size + 1) #[.int .i64 most] 3 := by
    rw [hwa]; have := (Blk.new (w.alloc (.cells #[.pointer (some ⟨p, 0, none⟩)] 52)) #[.int .i64 most] 3).alloc (.cells #[.int .i64 0] 3)
    simpa using this
  have b2 : Blk wa (w.heap.size + 1 + 1) #[.int .i64 0] 3 := by
    rw [hwa]; have := (Blk.new ((w.alloc (.cells #[.pointer (some ⟨p, 0, none⟩)] 52)).alloc (.cells #[.int .i64 most] 3)) #[.int .i64 0] 3)
    simpa using this
  have hsz : w.heap.size < wa.heap.size := b0.lt
  by_cases he : e = 0
  · subst he
    have hT := Lib.hid (text_take ha hn hm hfa b0 b1 b2 (by omega))
    clear b0 b1 b2 ha hfa h
    subst hwa
    obtain ⟨T, hTT⟩ : ∃ T, T = rText d 0 most := ⟨_, rfl⟩
    have hle : (rText d 0 most).1.length ≤ d.length := by
      unfold rText; split
      · simp
      · split
        · simp
        · simp; omega
    rw [← hTT] at hT hle ⊢
    clear hTT
    go_enter Try.func33, Try.ntmps33
    go_wp2_with (first | (go_at_call 48; refine (hT.out).mono ?_; rintro x w2 ⟨Av, nv, cv, A2, c2, hd, rfl, hc2, hsl, hrd, hf, hA⟩; have F := Lib.hid hf; have HA := Lib.hid hA; have HC := Lib.hid (bytesClone_any hrd (by omega)); clear hf hA hrd) | (go_at_call 43; refine (HC.out).mono ?_; rintro x w3 ⟨v3, rfl, hown, hf3⟩; obtain ⟨A3, c3, rfl, -, -, -⟩ := own_form hown))
    go_ret
    obtain ⟨A', c', h3⟩ := HA.out
    exact ⟨_, rfl, own_baseW hown (F.out).size, (F.out).then0 hf3, A', c', h3.fr0 hf3⟩
  · have hT := Lib.hid (take_err ha he (.func (.func 50) #[] #[.pointer (some ⟨w.heap.size, 0, none⟩), .pointer (some ⟨w.heap.size + 1, 0, none⟩), .pointer (some ⟨w.heap.size + 1 + 1, 0, none⟩)]))
    have e1 : rText d e most = ([], d, e) := by unfold rText; rw [if_pos he]
    have E1 := Lib.hid e1
    have c2 : wa.cell? ⟨w.heap.size + 1 + 1, 0, none⟩ = some (.int .i64 0) := b2.cell 0 rfl
    have HC := Lib.hid (bytesClone_any (RdB.nil wa) (by simp))
    have HFA := Lib.hid hfa
    clear e1 b0 b1 b2 ha hfa h
    subst hwa
    go_enter Try.func33, Try.ntmps33
    go_wp2_with (first | (go_at_call 48; refine (hT.out).mono ?_; rintro x w2 ⟨rfl, rfl⟩) | (go_at_call 43; refine (HC.out).mono ?_; rintro x w3 ⟨v3, rfl, hown, hf3⟩; obtain ⟨A3, c3, rfl, -, -, -⟩ := own_form hown))
    go_ret
    refine ⟨_, rfl, ?_, Fr1.of0 ((HFA.out).trans hf3), A, c, ?_⟩
    · rw [E1.out]; exact own_baseW hown (HFA.out).size
    · rw [E1.out]; exact ((H.out).fr0 (HFA.out)).fr0 hf3
end Go.Proofs.Ytcbllkkbpjobpaa
