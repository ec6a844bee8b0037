/- bytes.Clone. Conditions stand in the statements. -/
import Derived.Test.YtpmindbipclphaaRows
import Derived.Test.YtpmindbipclphaaWireLaw
import Derived.Test.YtpmindbipclphaaOwn
import Derived.WalkKit
import Derived.WalkSpells
import Derived.BigQuiet
import Derived.Deep.QuietTactic
import Derived.Lib.Hide
import Derived.Handy
import Derived.KernelRfl
namespace Go.Proofs.Ytpmindbipclphaa
open Go.RowKit


set_option maxHeartbeats 400000 in
theorem bytesClone_any {v : Value} {d : List UInt8} {w : World} (h : RdB w v d) (hn : d.length ≤ 100000000) :
    Calls Try.prog 42 #[v] w fun e w' => ∃ v', e = .returned v' ∧ w'.ownsRow w.heap.size 5 1 v' d.length (byts d) ∧ Fr0 w w' := by
  obtain ⟨A, c, rfl, hnc, hcm, hnone⟩ := h.form
  obtain ⟨i0, hiW, hz0, hz1, hz2⟩ := info_parts infoU8
  have qT : ∀ (w : World) (a : Option Addr) (n c n' c' : Nat), (binOp .eql 35 (.slice a n c) (.slice none n' c')).run Try.prog w = .ok (.bool a.isNone) w := fun w a n c n' c' => Lib.run_eql_slice_nil w _ _ a n c n' c' Try.underlying35
  cases A with
  | none =>
    obtain rfl : c = 0 := hnone rfl
    have hd : d = [] := List.eq_nil_of_length_eq_zero (by omega)
    subst hd
    go_enter Try.func42, Try.ntmps42
    go_wp2
    go_ret
    exact ⟨_, rfl, World.ownsRow_nil _ _ _ _, Fr0.refl _⟩
  | some a =>
    have hown : (w.alloc (.cells #[] 5)).ownsRow w.heap.size 5 1 (.slice (some ⟨w.heap.size, 0, none⟩) 0 0) 0 [] := own_empty (heap_alloc_new w _) (Nat.le_refl _)
    have hnews := (Rd.fr0 h (Fr0.alloc (Fr0.refl w) (.cells #[] 5))).news
    clear h
    go_enter Try.func42, Try.ntmps42
    go_wp2_with (at_builtin; refine wpList_append_own _ rfl _ _ 35 rfl w.heap.size 5 i0 (.int .u8 0) 1 1 Try.underlying35 hiW hz0 hz1 hz2 rfl (by decide) _ _ _ rfl hown a d.length c (byts d) rfl (byts_len d) hnews (byts_one d) (by unfold maxLen; omega) (by omega) (by simp) ?_; intro v' w1 hown' hgrow _)
    go_ret
    refine ⟨_, rfl, ?_, ?_⟩
    · simpa using hown'
    · exact Fr.grown (Fr.alloc (Fr0.refl w) _) hgrow (fun k hk => .inr (by cases hk; exact Nat.le_refl _))

theorem own_baseW {w : World} {t : TypeId} {size n b b' : Nat} {v : Value} {xs : List Value} (h : w.ownsRow b t size v n xs) (hb : b' ≤ b) : w.ownsRow b' t size v n xs :=
  ⟨h.1, h.2.imp id (by rintro ⟨g, cap, cur, h1, h2, h3⟩; exact ⟨g, cap, cur, h1, Nat.le_trans hb h2, h3⟩)⟩
end Go.Proofs.Ytpmindbipclphaa
