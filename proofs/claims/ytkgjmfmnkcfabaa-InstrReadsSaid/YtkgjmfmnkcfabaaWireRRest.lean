/- The reader's Rest, Left, Err. Conditions stand in the statements. -/
import Derived.Test.YtkgjmfmnkcfabaaWireRNum
namespace Go.Proofs.Ytkgjmfmnkcfabaa
open Go.RowKit

def rRest (d : List UInt8) (e : Int) : List UInt8 × List UInt8 × Int := if e ≠ 0 then ([], d, e) else (d, [], 0)

set_option maxHeartbeats 400000 in
theorem rest1_any {p b0 : Nat} {A : Option Addr} {c : Nat} {d : List UInt8} {e : Int} {w : World} (h : RdrV w p A c d e)
    (h0 : Blk w b0 #[.pointer (some ⟨p, 0, none⟩)] 37) :
    Calls Try.prog 33 #[.pointer (some ⟨b0, 0, none⟩)] w fun x w' => x = .returned (.tuple #[.int .i64 (d.length : Nat), .int .i64 0]) ∧ w' = w := by
  have c0 : w.cell? ⟨p, 0, none⟩ = some (.slice A d.length c) := h.blk.cell 0 rfl
  have d0 : w.cell? ⟨b0, 0, none⟩ = some (.pointer (some ⟨p, 0, none⟩)) := h0.cell 0 rfl
  clear h h0
  go_enter Try.func33, Try.ntmps33
  go_wp2_with fail
  go_ret2
  exact ⟨rfl, rfl⟩

set_option maxHeartbeats 400000 in
theorem rrest_any {p : Nat} {A : Option Addr} {c : Nat} {d : List UInt8} {e : Int} {w : World} (h : RdrV w p A c d e) (hn : d.length ≤ 100000000) :
    Calls Try.prog 19 #[.pointer (some ⟨p, 0, none⟩)] w fun x w' => ∃ v, x = .returned v ∧ w'.ownsRow w.heap.size 5 1 v (rRest d e).1.length (byts (rRest d e).1) ∧ Fr1 p w w' ∧ ∃ A' c', RdrV w' p A' c' (rRest d e).2.1 (rRest d e).2.2 := by
  obtain ⟨wa, hwa⟩ : ∃ wa, wa = (w.alloc (.cells #[.pointer (some ⟨p, 0, none⟩)] 37)) := ⟨_, rfl⟩
  have hfa : Fr0 w wa := by rw [hwa]; exact (Fr0.refl w).alloc _
  have ha := h.fr0 hfa
  have b0 : Blk wa w.heap.size #[.pointer (some ⟨p, 0, none⟩)] 37 := by rw [hwa]; exact Blk.new _ _ _
  have hT : Calls Try.prog 31 #[.pointer (some ⟨p, 0, none⟩), .func (.func 33) #[] #[.pointer (some ⟨w.heap.size, 0, none⟩)]] wa fun x w2 =>
      ∃ Av cv, x = .returned (.slice Av (rRest d e).1.length cv) ∧ RdB w2 (.slice Av (rRest d e).1.length cv) (rRest d e).1 ∧ Fr1 p w w2 ∧ ∃ A' c', RdrV w2 p A' c' (rRest d e).2.1 (rRest d e).2.2 := by
    by_cases he : e = 0
    · subst he
      have hs : StepFn wa p A c d (.func (.func 33) #[] #[.pointer (some ⟨w.heap.size, 0, none⟩)]) d.length 0 (fun w' => w' = wa) :=
        ⟨⟨_, _, _, rfl, fun args w1 => by kernel_rfl, rest1_any ha b0⟩, by rintro w' rfl; exact ha, fun _ => Nat.le_refl _⟩
      refine (take_any ha hs).mono ?_
      rintro x w2 ⟨w1, v, rfl, rfl, hf, k1, k2⟩
      obtain ⟨⟨A', c', h3⟩, rfl, h4, h5⟩ := k2 rfl
      have e1 : rRest d 0 = (d, [], 0) := by unfold rRest; rw [if_neg (by simp)]
      rw [e1]
      rw [List.take_length] at h4
      rw [List.drop_length] at h3
      exact ⟨A, c, rfl, h4, (Fr1.of0 hfa).trans hf, A', c', h3⟩
    · have e1 : rRest d e = ([], d, e) := by unfold rRest; rw [if_pos he]
      refine (take_err ha he _).mono ?_
      rintro x w2 ⟨rfl, rfl⟩
      rw [e1]
      exact ⟨none, 0, rfl, RdB.nil _, Fr1.of0 hfa, A, c, ha⟩
  have hle : (rRest d e).1.length ≤ d.length := by unfold rRest; split <;> simp
  have HT := Lib.hid hT
  obtain ⟨R, hR⟩ : ∃ R, R = rRest d e := ⟨_, rfl⟩
  rw [← hR] at HT hle ⊢
  clear hT b0 ha hfa h hR
  subst hwa
  go_enter Try.func19, Try.ntmps19
  go_wp2_with (first | (go_at_call 31; refine (HT.out).mono ?_; rintro x w2 ⟨Av, cv, rfl, hrd, hf, hA⟩; have F := Lib.hid hf; have HA := Lib.hid hA; have HC := Lib.hid (bytesClone_any hrd (by omega)); clear hf hA hrd) | (go_at_call 29; refine (HC.out).mono ?_; rintro x w3 ⟨v3, rfl, hown, hf3⟩; obtain ⟨A3, c3, rfl, -, -, -⟩ := own_form hown))
  go_ret
  obtain ⟨A', c', h3⟩ := HA.out
  exact ⟨_, rfl, own_base hown (F.out).size, (F.out).then0 hf3, A', c', h3.fr0 hf3⟩

set_option maxHeartbeats 400000 in
theorem rerr_any {p : Nat} {A : Option Addr} {c : Nat} {d : List UInt8} {e : Int} {w : World} (h : RdrV w p A c d e) :
    Calls Try.prog 20 #[.pointer (some ⟨p, 0, none⟩)] w fun x w' => x = .returned (.int .i64 e) ∧ w' = w := by
  have c0 : w.cell? ⟨p, 1, none⟩ = some (.int .i64 e) := h.blk.cell 1 rfl
  clear h
  go_enter Try.func20, Try.ntmps20
  go_wp2_with fail
  go_ret
  exact ⟨rfl, rfl⟩

end Go.Proofs.Ytkgjmfmnkcfabaa
