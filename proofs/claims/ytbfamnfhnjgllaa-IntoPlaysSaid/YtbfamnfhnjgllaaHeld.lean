/- Contracts of Held and of the list of numbers that it makes. Conditions stand in the statements. -/
import Derived.Test.YtbfamnfhnjgllaaInto
import Derived.Deep.AppendLies
namespace Go.Proofs.Ytbfamnfhnjgllaa
open Go.RowKit

theorem infoInt : (Try.prog.info? 3).map (fun i => (i.zero, i.size, i.bytes)) = some (some (.int .i64 0), 1, 8) := by kernel_rfl

set_option maxHeartbeats 400000 in
theorem held_any {p : Nat} {fv sv : Value} {l : List (Int × ByteArray)} {w : World} (h : InAt w p fv sv l) (hn : 0 < l.length) (hl : l.length ≤ 1000) :
    Calls Try.prog 10 #[.pointer (some ⟨p, 0, none⟩)] w fun e w' => ∃ v, e = .returned v ∧ w'.ownsRow w.heap.size 3 1 v l.length (icells (l.map (·.1))) ∧ Fr0 w w' := by
  obtain ⟨hb, hr, hap⟩ := h
  obtain ⟨i0, hi, hz0, hz1, hz2⟩ := info_parts infoInt
  obtain ⟨A, c, rfl, hnc, _, _⟩ := hr.form
  have hT := Lib.hid (there_yes hb hn)
  have h1 : w.cell? ⟨p, 1, none⟩ = some (.slice A l.length c) := hb.cell 1 rfl
  go_enter Try.func10, Try.ntmps10
  go_wp2_with (go_at_call 25; refine (hT.out).mono ?_; rintro e w' ⟨rfl, rfl⟩)
  clear hT h1
  go_loopw [3, 14] (fun v3 v14 wr => ∃ k : Nat, k ≤ l.length ∧ v14 = .int .i64 k ∧ wr.ownsRow w.heap.size 3 1 v3 k (icells ((l.take k).map (·.1))) ∧ Fr0 w wr) (fun _ v14 _ => l.length - (intOf v14).toNat)
  case atStart => exact ⟨0, Nat.zero_le _, rfl, by simpa [icells] using World.ownsRow_nil w w.heap.size 3 1, Fr0.refl _⟩
  case round =>
    obtain ⟨k, hk, rfl, hown, hf⟩ := hrel
    by_cases hlt : k < l.length
    · obtain ⟨g, off, c', hv, hic, hg, hc⟩ := (hr.fr0 hf).cellAt (i := k) (by omega)
      injection hv with hA _ hcc
      subst hA hcc
      have c0 := hc 0 _ (hcells_at l k hlt).1
      have c1 := hc 1 _ (hcells_at l k hlt).2
      simp only [Nat.add_zero] at c0
      obtain ⟨x, hx⟩ : ∃ x, x = l[k].1 := ⟨_, rfl⟩
      obtain ⟨s, hs⟩ : ∃ s, s = l[k].2 := ⟨_, rfl⟩
      rw [← hx] at c0
      rw [← hs] at c1
      have hsn : icells ((l.take (k + 1)).map (·.1)) = icells ((l.take k).map (·.1)) ++ [.int .i64 x] := by
        rw [List.take_succ_eq_append_getElem hlt, List.map_append, hx]; exact icells_snoc _ _
      have Hsn := Lib.hid hsn
      have hwz := hf.size
      clear hc hx hs hsn hr hap hb hn
      have hlen := hown.1
      have hf2 : Fr0 w ((wr.alloc (.cells #[.int .i64 x, .string s] 66)).alloc (.cells #[.int .i64 x] 3)) := (hf.alloc _).alloc _
      have hown2 := (hown.alloc (.cells #[.int .i64 x, .string s] 66)).alloc (.cells #[.int .i64 x] 3)
      have Hf := Lib.hid hf
      have Hf2 := Lib.hid hf2
      clear hf hf2
      go_wp2_with (at_builtin; refine wpList_append_own _ rfl _ _ 31 rfl w.heap.size 3 i0 (.int .i64 0) 1 8 Try.underlying31 hi hz0 hz1 hz2 rfl (by decide) _ _ _ rfl hown2 ⟨wr.heap.size + 1, 0, none⟩ 1 1 [.int .i64 x] rfl rfl (World.news_of_block (cs := #[.int .i64 x]) (t := 3) (fr := (0, 0)) (by simpa using heap_alloc_new (wr.alloc (.cells #[.int .i64 x, .string s] 66)) (.cells #[.int .i64 x] 3))) (by simp [Value.oneCell']) (by unfold maxLen; omega) (by omega) (by simp; omega) ?_; intro v' w1 hown' hgrow _)
      go_roundw
      case rel => exact ⟨k + 1, by omega, by go_num, by rw [Hsn.out]; exact hown', Fr.grown Hf2.out hgrow (fun j hj => .inr (own_lt' hown j hj).1)⟩
      case measure => simp [intOf]; omega
    · have : k = l.length := by omega
      subst this
      rw [List.take_length] at hown
      go_wp2_with fail
      go_ret
      exact ⟨_, rfl, hown, hf⟩
end Go.Proofs.Ytbfamnfhnjgllaa
