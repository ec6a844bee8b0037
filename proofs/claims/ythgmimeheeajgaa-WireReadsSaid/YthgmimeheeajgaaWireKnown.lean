/- The chapter's rows: 'known' answers true. Conditions stand in the statements. -/
import Derived.Test.YthgmimeheeajgaaWireRef
namespace Go.Proofs.Ythgmimeheeajgaa
open Go.RowKit

theorem rdr_of_open {w : World} {p base : Nat} {v : Value} {d : List UInt8} {e : Int} (hb : Blk w p #[v, .int .i64 e] 50) (hown : w.ownsRow base 5 1 v d.length (byts d)) : ∃ A c, RdrV w p A c d e := by
  obtain ⟨A, c, rfl, _⟩ := own_form hown
  exact ⟨A, c, hb, RdB.of_own hown, TyB.of_own hown⟩

/-- Open, the reader under a name. -/
theorem openR_any {v : Value} {d : List UInt8} {w : World} (h : RdB w v d) (hn : d.length ≤ 100000000) :
    Calls Try.prog 13 #[v] w fun e w' => ∃ p A c, e = .returned (.pointer (some ⟨p, 0, none⟩)) ∧ RdrV w' p A c d 0 ∧ Fr0 w w' ∧ w.heap.size ≤ p ∧ p < w'.heap.size := by
  refine (open_any h hn).mono ?_
  rintro e w' ⟨p, v', rfl, hb, hown, hf, hp⟩
  obtain ⟨A, c, hr⟩ := rdr_of_open hb hown
  exact ⟨p, A, c, rfl, hr, hf, hp, hb.lt⟩

theorem form16384 : form 16384 = [129, 128, 0] := by rw [form_grp 16384 3 (by decide) (by decide) (by decide)]; decide
theorem fixed258 : fixed 258 3 = [0, 1, 2] := by decide
theorem known_text : rText [2, 97, 98, 129, 0] 0 2 = ([97, 98], [129, 0], 0) := by decide
theorem known_num : rNum [129, 0] 0 = (128, [], 0) := by decide

/-- A piece of the call's own: its value reads as bytes, and its text. -/
theorem own_text {w w0 : World} {v : Value} {d : List UInt8} (h : w.ownsRow w0.heap.size 5 1 v d.length (byts d)) :
    ∃ A c, v = .slice A d.length c ∧ RdB w (.slice A d.length c) d ∧ (convert 23 9 (.slice A d.length c)).run Try.prog w = .ok (.string (str d)) w := by
  obtain ⟨A, c, rfl, _⟩ := own_form h
  exact ⟨A, c, rfl, RdB.of_own h, conv_bytes w _ _ _ Try.underlying23 Try.underlying5 Try.underlying9 (RdB.of_own h)⟩

theorem conv_own {w : World} {A : Option Addr} {c : Nat} {d : List UInt8} (h : RdB w (.slice A d.length c) d) : (convert 23 9 (.slice A d.length c)).run Try.prog w = .ok (.string (str d)) w :=
  conv_bytes w _ _ _ Try.underlying23 Try.underlying5 Try.underlying9 h

/-- The same, the length spelled as asked. -/
theorem own_textN {w w0 : World} {v : Value} {d : List UInt8} {n : Nat} (hn : d.length = n) (h : w.ownsRow w0.heap.size 5 1 v d.length (byts d)) :
    ∃ A c, v = .slice A n c ∧ RdB w (.slice A n c) d ∧ (convert 23 9 (.slice A n c)).run Try.prog w = .ok (.string (str d)) w := by
  subst hn; exact own_text h
theorem conv_ownN {w : World} {A : Option Addr} {c : Nat} {d : List UInt8} {n : Nat} (hn : d.length = n) (h : RdB w (.slice A n c) d) : (convert 23 9 (.slice A n c)).run Try.prog w = .ok (.string (str d)) w := by
  subst hn; exact conv_own h

set_option maxHeartbeats 400000 in
set_option maxRecDepth 100000 in
theorem known_any (w : World) : Calls Try.prog 12 #[] w fun e w' => e = .returned (.bool true) ∧ Fr0 w w' := by
  have hL := lit_bytes w 5 [2, 97, 98, 129, 0] (by decide) (0, 0)
  have hO := Lib.hid (openR_any hL (by decide))
  have q1 : ((str [129, 128, 0]).toList == [129, 128, 0]) = true := by rw [ByteArray.toList_eq]; rfl
  have q2 : ((str [0, 1, 2]).toList == [0, 1, 2]) = true := by rw [ByteArray.toList_eq]; rfl
  have q3 : ((str [97, 98]).toList == [97, 98]) = true := by rw [ByteArray.toList_eq]; rfl
  clear hL
  go_enter Try.func12, Try.ntmps12
  go_wp2_with (first
    | (go_at_call 13; refine (hO.out).mono ?_; rintro e w1 ⟨p, A, c, rfl, hr, hf, hp, hp2⟩; have F1 := Lib.hid (((Fr0.refl w).alloc _).trans hf); have HP := Lib.hid (Nat.le_of_succ_le (Nat.lt_of_lt_of_le (Nat.lt_succ_self w.heap.size) (Nat.le_trans (by simp) hp))); have HT := Lib.hid (rtext_any (most := 2) hr (by decide) (by decide)); clear hr hf hp hp2)
    | (go_at_call 22; refine (HT.out).mono ?_; rintro e w2 ⟨v, rfl, hown, hf, A', c', hr⟩; rw [known_text] at hown hr; obtain ⟨As, cs, rfl, hrs, -⟩ := own_textN (n := 2) rfl hown; have HS := Lib.hid hrs; have HTY := Lib.hid (TyB.of_own hown); have HB := Lib.hid hr.blk; have F2 := Lib.hid hf; have HN := Lib.hid (rnum_any hr (by decide)); clear hown hf hr hrs)
    | (go_at_call 14; refine (HN.out).mono ?_; rintro e w3 ⟨he, hf, A3, c3, hr3⟩; rw [known_num] at he hr3; subst he; have HS3 := Lib.hid (Rd.frT HS.out HTY.out hf HB.out (by decide)); have F3 := Lib.hid hf; have HR3 := Lib.hid hr3; clear hf hr3)
    | (go_at_call 11; refine (wireNum_any 16384 (by decide) _).mono ?_; rintro e w4 ⟨v, rfl, hown, hf⟩; have F4 := Lib.hid hf; rw [form16384] at hown; obtain ⟨A4, c4, rfl, hr4, hc4⟩ := own_textN (n := 3) rfl hown; clear hown hf hr4)
    | (go_at_call 16; refine (wireFixed_any 258 3 (by decide) _).mono ?_; rintro e w5 ⟨v, rfl, hown, hf⟩; have F5 := Lib.hid hf; rw [fixed258] at hown; obtain ⟨A5, c5, rfl, hr5, hc5⟩ := own_textN (n := 3) rfl hown; have hcs := conv_ownN (n := 2) rfl ((RdB.fr0 (RdB.fr0 HS3.out F4.out) hf)); have HE := Lib.hid (rend_any (RdrV.fr0 (RdrV.fr0 HR3.out F4.out) hf) (by decide)); clear hown hf hr5)
    | (go_at_call 29; refine (HE.out).mono ?_; rintro e w6 ⟨he, hw⟩; rw [show rEnd [] 0 = 0 from by decide] at he; subst he; subst hw))
  go_ret
  exact ⟨rfl, Fr0.new F1.out ((((F2.out).trans F3.out).then0 F4.out).then0 F5.out) HP.out⟩
end Go.Proofs.Ythgmimeheeajgaa
