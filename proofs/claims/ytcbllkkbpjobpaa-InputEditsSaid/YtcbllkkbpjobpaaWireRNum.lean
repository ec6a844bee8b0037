/- The reader's Num. Conditions stand in the statements. -/
import Derived.Test.YtcbllkkbpjobpaaWireTake
import Derived.Test.YtcbllkkbpjobpaaWireRd
namespace Go.Proofs.Ytcbllkkbpjobpaa
open Go.RowKit

/-- What Num answers, what is left, the error. -/
def rNum (d : List UInt8) (e : Int) : Nat × List UInt8 × Int :=
  if e ≠ 0 then (0, d, e) else if (rd d).2 = 0 then (0, d, 4) else ((rd d).1, d.drop (rd d).2, 0)

set_option maxHeartbeats 400000 in
theorem digits_any {p : Nat} {A : Option Addr} {c : Nat} {d : List UInt8} {e : Int} {w : World} (h : RdrV w p A c d e) (hn : d.length ≤ 100000000) :
    Calls Try.prog 49 #[.pointer (some ⟨p, 0, none⟩)] w fun x w' => x = .returned (.tuple #[.int .i64 ((rd d).2 : Nat), .int .i64 (if (rd d).2 = 0 then 4 else 0)]) ∧ w' = w := by
  have c0 : w.cell? ⟨p, 0, none⟩ = some (.slice A d.length c) := h.blk.cell 0 rfl
  have hN := Lib.hid (number_any h.rd hn)
  clear h
  by_cases hk : (rd d).2 = 0
  · have hk' : decide (0 < ((rd d).2 : Int)) = false := by simp; omega
    have HK := Lib.hid hk
    obtain ⟨N, hNN⟩ : ∃ N, N = rd d := ⟨_, rfl⟩
    rw [← hNN] at hk' hN HK ⊢
    clear hk hNN
    go_enter Try.func49, Try.ntmps49
    go_wp2_with (go_at_call 47; refine (hN.out).mono ?_; rintro e w1 ⟨rfl, rfl⟩)
    go_ret2
    exact ⟨rfl, rfl⟩
  · have hk' : decide (0 < ((rd d).2 : Int)) = true := by simp; omega
    have HK := Lib.hid hk
    obtain ⟨N, hNN⟩ : ∃ N, N = rd d := ⟨_, rfl⟩
    rw [← hNN] at hk' hN HK ⊢
    clear hk hNN
    go_enter Try.func49, Try.ntmps49
    go_wp2_with (go_at_call 47; refine (hN.out).mono ?_; rintro e w1 ⟨rfl, rfl⟩)
    go_ret2
    exact ⟨rfl, rfl⟩

theorem digits_step {p : Nat} {A : Option Addr} {c : Nat} {d : List UInt8} {w : World} (h : RdrV w p A c d 0) (hn : d.length ≤ 100000000) :
    StepFn w p A c d (.func (.func 49) #[.pointer (some ⟨p, 0, none⟩)] #[]) (rd d).2 (if (rd d).2 = 0 then 4 else 0) (fun w' => w' = w) :=
  ⟨⟨_, _, _, rfl, fun args w1 => by kernel_rfl, digits_any h hn⟩, by rintro w' rfl; exact h, fun _ => (rdNum_lt d 0 0).1⟩

theorem rd_take {d : List UInt8} (h : (rd d).2 ≠ 0) : rd (d.take (rd d).2) = rd d := by
  obtain ⟨h1, h2, h3⟩ := rd_once (d := d) (n := (rd d).1) (k := (rd d).2) rfl (by omega)
  rw [h3]
  have h4 := rd_form (rd d).1 h2 []
  rw [List.append_nil] at h4
  have hl : (form (rd d).1).length = (rd d).2 := by rw [← h3, List.length_take]; exact Nat.min_eq_left h1
  rw [show rd (form (rd d).1) = rdNum (form (rd d).1) 0 0 from rfl, h4, hl]

set_option maxHeartbeats 400000 in
theorem rnum_any {p : Nat} {A : Option Addr} {c : Nat} {d : List UInt8} {e : Int} {w : World} (h : RdrV w p A c d e) (hn : d.length ≤ 100000000) :
    Calls Try.prog 32 #[.pointer (some ⟨p, 0, none⟩)] w fun x w' => x = .returned (.int .u64 ((rNum d e).1 : Nat)) ∧ Fr1 p w w' ∧ ∃ A' c', RdrV w' p A' c' (rNum d e).2.1 (rNum d e).2.2 := by
  by_cases he : e = 0
  · subst he
    have hT := Lib.hid (take_any h (digits_step h hn))
    have H := Lib.hid h
    clear h
    go_enter Try.func32, Try.ntmps32
    go_wp2_with (go_at_call 48; refine (hT.out).mono ?_; rintro x w2 ⟨w1, v, rfl, hG, hf, h1, h2⟩; subst hG; have H1 := Lib.hid h1; have H2 := Lib.hid h2; clear h1 h2)
    by_cases hk : (rd d).2 = 0
    · obtain ⟨rfl, h3⟩ := H1.out (by simp [hk])
      have H3 := Lib.hid h3
      have HK := Lib.hid hk
      have hN := Lib.hid (number_any (RdB.nil w2) (by simp))
      clear h3 hk
      go_wp2_with (go_at_call 47; refine (hN.out).mono ?_; rintro e w3 ⟨rfl, rfl⟩)
      go_ret
      have e : rNum d 0 = (0, d, 4) := by unfold rNum; rw [if_neg (by simp), if_pos HK.out]
      rw [e]
      refine ⟨rfl, hf, A, c, ?_⟩
      have := H3.out
      rwa [if_pos HK.out] at this
    · obtain ⟨⟨A', c', h3⟩, rfl, h4, h5⟩ := H2.out (by simp [hk])
      have H3 := Lib.hid h3
      have HK := Lib.hid hk
      have hle := (rdNum_lt d 0 0).1
      have h6 : RdB w2 (.slice A (rd d).2 c) (d.take (rd d).2) := h4
      have hN := number_any h6 (by rw [List.length_take]; omega)
      rw [rd_take hk] at hN
      have HN := Lib.hid hN
      clear h3 hk hN h4 h5 h6
      go_wp2_with (go_at_call 47; refine (HN.out).mono ?_; rintro e w3 ⟨rfl, rfl⟩)
      go_ret
      have e : rNum d 0 = ((rd d).1, d.drop (rd d).2, 0) := by unfold rNum; rw [if_neg (by simp), if_neg HK.out]
      rw [e]
      exact ⟨rfl, hf, A', c', H3.out⟩
  · have hT := Lib.hid (take_err h he (.func (.func 49) #[.pointer (some ⟨p, 0, none⟩)] #[]))
    have hN := Lib.hid (number_any (RdB.nil w) (by simp))
    have e1 : rNum d e = (0, d, e) := by unfold rNum; rw [if_pos he]
    have E1 := Lib.hid e1
    have H := Lib.hid h
    clear h e1
    go_enter Try.func32, Try.ntmps32
    go_wp2_with (first | (go_at_call 48; refine (hT.out).mono ?_; rintro x w2 ⟨rfl, rfl⟩) | (go_at_call 47; refine (hN.out).mono ?_; rintro x w3 ⟨rfl, rfl⟩))
    go_ret
    rw [E1.out]
    exact ⟨rfl, Fr1.refl _ _, A, c, H.out⟩
end Go.Proofs.Ytcbllkkbpjobpaa
