/- What Hear leaves, told plainly: the law of IntoStays over lists. Conditions stand in the statements. -/
import Derived.Test.YtbfamnfhnjgllaaStays
import Derived.Test.YtbfamnfhnjgllaaKnown24
import Derived.Test.YtbfamnfhnjgllaaArgs
namespace Go.Proofs.Ytbfamnfhnjgllaa
open Go.RowKit

theorem hear_cases (f : ByteArray → List UInt8 → ByteArray × Int) (l : List (Int × ByteArray)) (old new ack trash : Int) (d : List UInt8) (hl : 0 < l.length) :
    ∃ K, K < l.length ∧
      (((hear f l old new ack trash d).2.1 = false ∧ (hear f l old new ack trash d).1 = l.drop K) ∨
       ∃ x, ∃ y ∈ l, (hear f l old new ack trash d) = (l.drop K ++ [(new, x)], true, 0) ∧ (l[l.length - 1]'(by omega)).1 < new ∧ (l.drop K).length < 16 ∧ x = (f y.2 d).1 ∧ (f y.2 d).2 = 0) := by
  unfold hear
  split
  · exact ⟨0, hl, .inl ⟨rfl, by simp⟩⟩
  · simp only []
    have hlast : (l.getD (l.length - 1) (0, ⟨#[]⟩)).1 = (l[l.length - 1]'(by omega)).1 := by rw [getD_at (by omega)]
    obtain ⟨K, hK, hK1, -⟩ : ∃ K, ∃ h : K < l.length, idx (fun h => decide (h.1 ≥ trash) || h.1 == (l.getD (l.length - 1) (0, ⟨#[]⟩)).1) l = K ∧ True := by
      rcases idx_cases (fun h => decide (h.1 ≥ trash) || h.1 == (l.getD (l.length - 1) (0, ⟨#[]⟩)).1) l with ⟨k, h, h1, _⟩ | ⟨_, h⟩
      · exact ⟨k, h, h1, trivial⟩
      · exfalso
        have := h (l[l.length - 1]'(by omega)) (List.getElem_mem _)
        rw [hlast] at this
        simp at this
    rw [hK1, Int.toNat_natCast]
    refine ⟨K, hK, ?_⟩
    split
    · exact .inl ⟨rfl, rfl⟩
    · rename_i hnew
      split
      · exact .inl ⟨rfl, rfl⟩
      · rename_i hat
        rcases idx_cases (fun h => h.1 == old) (l.drop K) with ⟨k, hk, hk1, _⟩ | ⟨hk1, _⟩
        · rw [hk1, Int.toNat_natCast, getD_at hk]
          split
          · exact .inl ⟨rfl, rfl⟩
          · rename_i hr
            split
            · exact .inl ⟨rfl, rfl⟩
            · refine .inr ⟨_, (l.drop K)[k], List.mem_of_mem_drop (List.getElem_mem hk), rfl, ?_, by omega, rfl, by simpa using hr⟩
              rw [hlast] at hnew
              omega
        · rw [hk1] at hat
          exact absurd (by omega) hat
end Go.Proofs.Ytbfamnfhnjgllaa
