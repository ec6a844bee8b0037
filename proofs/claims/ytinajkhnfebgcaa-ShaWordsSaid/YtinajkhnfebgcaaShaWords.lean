/- ShaWords: the words from which a digest begins, and those of a block's turns, are the first bits of roots of primes: the law returns true for every number. No condition. -/
import Derived.Test.YtinajkhnfebgcaaShaRStart
import Derived.Test.YtinajkhnfebgcaaShaKnown
import Derived.Test.YtinajkhnfebgcaaWLits
import Derived.Handy
set_option linter.unusedSimpArgs false
namespace Go.Proofs.Ytinajkhnfebgcaa
open Go.RowKit

set_option maxHeartbeats 1000000 in
theorem words_any (k : Int) (w : World) : Calls Try.prog 3 #[.int .i64 k] w fun e w' => e = .returned (.bool true) ∧ Fr0 w w' := by
  have H1 := Lib.hid (fun W => start_any k W)
  have H2 := Lib.hid (fun W => rstart_any k W)
  have H3 := Lib.hid (fun W => turn_any k W)
  have H4 := Lib.hid (fun W => rturn_any k W)
  have H5 := Lib.hid (fun W => known02_any W)
  obtain ⟨s, hs⟩ : ∃ s, s = startI k := ⟨_, rfl⟩
  obtain ⟨t, ht⟩ : ∃ t, t = turnI k := ⟨_, rfl⟩
  rw [← hs] at H1 H2
  rw [← ht] at H3 H4
  clear hs ht
  go_enter Try.func3, Try.ntmps3
  go_wp2_with (first
    | (go_at_call 9; refine (H1.out _).mono ?_; rintro e w' ⟨rfl, rfl⟩)
    | (go_at_call 10; refine (H2.out _).mono ?_; rintro e w1 ⟨rfl, hf⟩; have F1 := Lib.hid hf; clear hf)
    | (go_at_call 11; refine (H3.out _).mono ?_; rintro e w' ⟨rfl, rfl⟩)
    | (go_at_call 12; refine (H4.out _).mono ?_; rintro e w2 ⟨rfl, hf⟩; have F2 := Lib.hid (Fr0.trans F1.out hf); clear hf)
    | (go_at_call 13; refine (H5.out _).mono ?_; rintro e w3 ⟨rfl, hf⟩; have F3 := Lib.hid (Fr0.trans F2.out hf); clear hf))
  go_ret
  exact ⟨rfl, F3.out⟩
namespace ShaWords
open Go.ChangeShapes Go.WideShapes Go.ChangeAt
open Go.ChangeMaps (open_string shut_string)

theorem own : ownKnob Try.prog.godebug = none := by kernel_rfl
theorem laidOut : laidOutB Try.prog = true := by kernel_rfl

set_option maxRecDepth 100000 in
theorem lifted (os : Os) (started : os.Started) (H : Type) (enc : TypeId × Value → H) :
    ReturnsInHanded {} Try.checked os 3 .any (Rows.shaWordsSpec.pre6 enc Try.prog Try.f3 Rows.shaWordsRow.domain false) (Rows.shaWordsSpec.post enc Try.prog Try.f3 false true false false) := by
  refine returnsInHanded_of_change (C := Try.checked) own started (by kernel_rfl) Try.func3
    (ChangeSpec.witness6 (enc := enc) (C := Try.checked) false ⟨#[], #[.int .i64 0], []⟩ 8 (by kernel_rfl) (by kernel_rfl) (by kernel_rfl) (by kernel_rfl)) ?_
  intro W base args ds gs before hval0 hW hcnd _
  have hval : ∀ (j : Nat) t v, Try.f3.params[j]? = some t → args[j]? = some v → Value.okWide Try.prog W .any base t v := hval0
  have hW' := hW
  obtain ⟨p, q, hA0, hV, rfl, hfz, hnd⟩ := hW
  have hA : DataW.TrodAll enc Try.prog W 0 (fun _ => true) true Try.f3.params.toList args.toList ds p := hA0
  rw [Try.params3] at hA hval
  obtain ⟨v0, vs0, d0', ds0, p0, q0, hargs, rfl, rfl, h0, r0⟩ := trodAll_cons hA
  obtain ⟨rfl, rfl, rfl⟩ := trodAll_nil r0
  obtain rfl : args = #[v0] := by cases args; simp_all
  obtain ⟨rfl, rfl⟩ := trodVars_none hV
  obtain ⟨n0, rfl, rfl, rfl, hn0⟩ := open_int Try.underlying3 (hval 0 3 v0 rfl rfl) h0
  have hm0 := lit_i64 hn0
  clear hA0 hval0
  refine (words_any n0 W).mono fun e W' ⟨he, hfr⟩ => ?_
  have bel : Below W.heap.size W W' := Fr0.below hfr
  subst he
  exact ⟨_, rfl, _, _, _, [], _, [], hW', trodAll_mk1 (shut_bool Try.underlying4 _), (trodAll_cons_mk (shut_int Try.underlying3 hn0) trodAll_mk0), rfl, bel.frame _, fun h => by cases h⟩

theorem over : Rows.shaWordsRow.holds Try.pinned (OpenSpec.ofChange Rows.shaWordsSpec) :=
  OpenClaim.holds_of_wide 3 Try.f3 rfl rfl rfl rfl rfl rfl rfl ⟨rfl, rfl, rfl, rfl, rfl⟩ rfl rfl rfl rfl rfl (by kernel_rfl) Try.func3 (by kernel_rfl)
    (of_decide_eq_true (by kernel_rfl)) (by unfold Func.isWrapper; first | (rw [if_pos (by decide +kernel)]; kernel_rfl) | (rw [if_neg (by decide +kernel)]; exact ⟨rfl, rfl⟩))
    (fun os started H enc _ => lifted os started H enc)

theorem proved : Rows.ShaWordsSaid := over
#print axioms proved
end ShaWords
end Go.Proofs.Ytinajkhnfebgcaa
