/- WireOrder: of two numbers the greater one has the longer form, or one as long that is greater byte by byte: the law returns true for every two numbers. No condition. -/
import Derived.Test.YthgmimeheeajgaaWireKnown
import Derived.Test.YthgmimeheeajgaaWLits
import Derived.Deep.RegionWith
import Derived.Deep.DeepCutAuto
namespace Go.Proofs.Ythgmimeheeajgaa
open Go.RowKit

theorem grp_ex : ∀ n : Nat, ∃ g, 1 ≤ g ∧ n < 128 ^ g ∧ (g = 1 ∨ 128 ^ (g - 1) ≤ n) := by
  intro n
  induction n using Nat.strongRecOn with
  | _ n ih =>
    rcases Nat.lt_or_ge n 128 with h | h
    · exact ⟨1, by omega, by simpa using h, .inl rfl⟩
    · obtain ⟨g, h1, h2, h3⟩ := ih (n / 128) (by omega)
      refine ⟨g + 1, by omega, ?_, .inr ?_⟩
      · rw [Nat.pow_succ]; exact (Nat.div_lt_iff_lt_mul (by omega)).1 h2
      · rw [show g + 1 - 1 = (g - 1) + 1 by omega, Nat.pow_succ]
        rcases h3 with rfl | h3
        · simpa using h
        · exact (Nat.le_div_iff_mul_le (by omega)).1 h3
theorem grp_less (a b : Nat) : ∀ k, a % 128 ^ k < b % 128 ^ k → Op.bytesLess (grp a k) (grp b k) = true
  | 0, h => by simp [Nat.mod_one] at h
  | k + 1, h => by
    rw [Nat.mod_pow_succ, Nat.mod_pow_succ] at h
    have h1 : a % 128 ^ k < 128 ^ k := Nat.mod_lt _ (Nat.pow_pos (by decide))
    have h2 : b % 128 ^ k < 128 ^ k := Nat.mod_lt _ (Nat.pow_pos (by decide))
    obtain ⟨x, hx⟩ : ∃ x, x = a / 128 ^ k % 128 := ⟨_, rfl⟩
    obtain ⟨y, hy⟩ : ∃ y, y = b / 128 ^ k % 128 := ⟨_, rfl⟩
    have hx' : x < 128 := by rw [hx]; exact Nat.mod_lt _ (by decide)
    have hy' : y < 128 := by rw [hy]; exact Nat.mod_lt _ (by decide)
    rw [grp, grp, ← hx, ← hy]
    rw [← hx, ← hy] at h
    simp only [Op.bytesLess, Bool.or_eq_true, decide_eq_true_eq, Bool.and_eq_true, beq_iff_eq]
    rcases Nat.lt_trichotomy x y with hlt | rfl | hgt
    · refine .inl ?_
      rw [UInt8.lt_iff_toNat_lt, u8_of _ (by split <;> omega), u8_of _ (by split <;> omega)]
      split <;> omega
    · exact .inr ⟨rfl, grp_less a b k (by omega)⟩
    · have h3 : 128 ^ k * (y + 1) ≤ 128 ^ k * x := Nat.mul_le_mul_left _ hgt
      rw [Nat.mul_add, Nat.mul_one] at h3
      omega

/-- The order of forms: by length, then byte by byte. -/
def lessF (x y : List UInt8) : Prop := x.length < y.length ∨ (x.length = y.length ∧ Op.bytesLess x y = true)
theorem less_irrefl : ∀ x : List UInt8, Op.bytesLess x x = false
  | [] => rfl
  | a :: x => by simp [Op.bytesLess, less_irrefl x, UInt8.lt_irrefl]
theorem less_asymm : ∀ x y : List UInt8, Op.bytesLess x y = true → Op.bytesLess y x = false
  | _, [], h => by simp [Op.bytesLess] at h
  | [], _ :: _, _ => rfl
  | a :: x, b :: y, h => by
    simp only [Op.bytesLess, Bool.or_eq_true, decide_eq_true_eq, Bool.and_eq_true, beq_iff_eq] at h
    simp only [Op.bytesLess, Bool.or_eq_false_iff, decide_eq_false_iff_not, Bool.and_eq_false_iff, beq_eq_false_iff_ne]
    rcases h with h | ⟨rfl, h⟩
    · refine ⟨by rw [UInt8.lt_iff_toNat_lt] at *; omega, .inl ?_⟩
      rintro rfl
      exact UInt8.lt_irrefl _ h
    · exact ⟨UInt8.lt_irrefl _, .inr (less_asymm x y h)⟩
theorem lessF_of {a b : Nat} (h : a < b) : lessF (form a) (form b) := by
  obtain ⟨g, g1, g2, g3⟩ := grp_ex a
  obtain ⟨k, k1, k2, k3⟩ := grp_ex b
  rw [form_grp a g g1 g2 g3, form_grp b k k1 k2 k3]
  unfold lessF
  rw [grp_len, grp_len]
  rcases Nat.lt_trichotomy g k with hlt | rfl | hgt
  · exact .inl hlt
  · refine .inr ⟨rfl, grp_less a b g ?_⟩
    rw [Nat.mod_eq_of_lt g2, Nat.mod_eq_of_lt k2]; exact h
  · have := Nat.pow_le_pow_right (show 0 < 128 by decide) (show k ≤ g - 1 by omega)
    omega
theorem form_facts (a b : Nat) : (a < b ↔ lessF (form a) (form b)) ∧ (form a = form b ↔ a = b) := by
  rcases Nat.lt_trichotomy a b with h | rfl | h
  · have h1 := lessF_of h
    refine ⟨⟨fun _ => h1, fun _ => h⟩, ⟨fun e => ?_, fun e => by omega⟩⟩
    rw [e] at h1
    rcases h1 with h1 | ⟨_, h1⟩
    · omega
    · rw [less_irrefl] at h1; cases h1
  · refine ⟨⟨fun h => by omega, fun h1 => ?_⟩, ⟨fun _ => rfl, fun _ => rfl⟩⟩
    rcases h1 with h1 | ⟨_, h1⟩
    · omega
    · rw [less_irrefl] at h1; cases h1
  · have h1 := lessF_of h
    refine ⟨⟨fun h => by omega, fun h2 => ?_⟩, ⟨fun e => ?_, fun e => by omega⟩⟩
    · rcases h1 with h1 | ⟨e1, h1⟩ <;> rcases h2 with h2 | ⟨e2, h2⟩
      · omega
      · omega
      · omega
      · rw [less_asymm _ _ h1] at h2; cases h2
    · rw [e] at h1
      rcases h1 with h1 | ⟨_, h1⟩
      · omega
      · rw [less_irrefl] at h1; cases h1
theorem order_tab : ∀ p1 p2 p3 p4 p5 : Bool, (p4 = true ↔ (p1 = true ∨ (p2 = true ∧ p3 = true))) → ¬(p1 = true ∧ p2 = true) → ¬ (p4 = true ∧ p5 = true) → (p5 = true → p2 = true) →
    (p1 = true ∧ p4 = true ∧ p5 = false) ∨ (p1 = false ∧ p2 = true ∧ p3 = true ∧ p4 = true ∧ p5 = false) ∨ (p1 = false ∧ p2 = true ∧ p3 = false ∧ p4 = false ∧ p5 = true) ∨ (p1 = false ∧ p2 = true ∧ p3 = false ∧ p4 = false ∧ p5 = false) ∨ (p1 = false ∧ p2 = false ∧ p4 = false ∧ p5 = false) := by
  intro p1 p2 p3 p4 p5
  cases p1 <;> cases p2 <;> cases p3 <;> cases p4 <;> cases p5 <;> simp
theorem strl (d : List UInt8) : (str d).toList = d := by rw [ByteArray.toList_eq]; exact str_toList d

set_option maxHeartbeats 1000000 in
set_option maxRecDepth 100000 in
theorem wireOrder_any (a b : Nat) (ha : a < 18446744073709551616) (hb : b < 18446744073709551616) (w : World) :
    Calls Try.prog 3 #[.int .u64 (a : Int), .int .u64 (b : Int)] w fun e w' => e = .returned (.bool true) ∧ Fr0 w w' := by
  obtain ⟨fa, hfa⟩ : ∃ fa, fa = form a := ⟨_, rfl⟩
  obtain ⟨fb, hfb⟩ : ∃ fb, fb = form b := ⟨_, rfl⟩
  have HA := Lib.hid (wireNum_any a ha)
  have HB := Lib.hid (wireNum_any b hb)
  rw [← hfa] at HA
  rw [← hfb] at HB
  have la := form_len_le ha
  have lb := form_len_le hb
  rw [← hfa] at la
  rw [← hfb] at lb
  have HFA := Lib.hid hfa
  have HFB := Lib.hid hfb
  clear hfa hfb
  go_enter Try.func3, Try.ntmps3
  go_wp2_with fail
  go_cut [5, 6] (fun s5 s6 wx => s5 = .string (str fa) ∧ s6 = .string (str fb) ∧ Fr0 w wx)
  case first =>
    go_region_with (first
      | (have _q := F1; go_at_call 11; refine (HB.out _).mono ?_; rintro e w2 ⟨v, rfl, hown, hf⟩; obtain ⟨A2, c2, rfl, hr2, hc2⟩ := own_text hown; have hc3 := conv_own (RdB.fr0 R1.out hf); have F2 := Lib.hid hf; clear hown hf hr2)
      | (go_at_call 11; refine (HA.out _).mono ?_; rintro e w1 ⟨v, rfl, hown, hf⟩; obtain ⟨A1, c1, rfl, hr1, hc1⟩ := own_text hown; have F1 := Lib.hid hf; have R1 := Lib.hid hr1; clear hown hf hr1))
    all_goals (go_wp2_with fail; go_meet; first | exact ⟨rfl, rfl, (F1.out).trans F2.out⟩ | exact ⟨rfl, rfl, (((Fr0.refl w).drew).trans F1.out).trans F2.out⟩)
  case rest =>
    obtain ⟨rfl, rfl, hf⟩ := hcut
    have HF := Lib.hid hf
    clear hf
    have hL : (decide (a < b) = true ↔ lessF fa fb) ∧ ((fa == fb) = true ↔ a = b) := by
      obtain ⟨h1, h2⟩ := form_facts a b
      rw [HFA.out, HFB.out, decide_eq_true_eq, beq_iff_eq]
      exact ⟨h1, h2⟩
    obtain ⟨hL1, hL2⟩ := hL
    have sa := str_size fa
    have sb := str_size fb
    have ta := strl fa
    have tb := strl fb
    obtain ⟨p1, e1⟩ : ∃ p, decide ((fa.length : Int) < (fb.length : Int)) = p := ⟨_, rfl⟩
    obtain ⟨p2, e2⟩ : ∃ p, ((fa.length : Int) == (fb.length : Int)) = p := ⟨_, rfl⟩
    obtain ⟨p3, e3⟩ : ∃ p, Op.bytesLess fa fb = p := ⟨_, rfl⟩
    obtain ⟨p4, e4⟩ : ∃ p, decide ((a : Int) < (b : Int)) = p := ⟨_, rfl⟩
    obtain ⟨p5, e5⟩ : ∃ p, ((a : Int) == (b : Int)) = p := ⟨_, rfl⟩
    have e1' : decide (fa.length < fb.length) = p1 := by rw [← e1]; congr 1; simp
    have e2' : (fa.length == fb.length) = p2 := by rw [← e2]; rw [Bool.eq_iff_iff]; simp; omega
    have e4' : decide (a < b) = p4 := by rw [← e4]; congr 1; simp
    have e5' : (a == b) = p5 := by rw [← e5]; rw [Bool.eq_iff_iff]; simp; omega
    have e6 : (fa == fb) = p5 := by
      rw [Bool.eq_iff_iff, hL2, ← e5', beq_iff_eq]
    have l1 : p1 = true ↔ fa.length < fb.length := by rw [← e1', decide_eq_true_eq]
    have l2 : p2 = true ↔ fa.length = fb.length := by rw [← e2', beq_iff_eq]
    have l4 : p4 = true ↔ a < b := by rw [← e4', decide_eq_true_eq]
    have l5 : p5 = true ↔ a = b := by rw [← e5', beq_iff_eq]
    have l8 : p5 = true → p2 = true := by rw [← e6, beq_iff_eq, l2]; exact fun h => by rw [h]
    rw [decide_eq_true_eq] at hL1
    unfold lessF at hL1
    rw [e3, ← l1, ← l2, ← l4] at hL1
    have hm := order_tab p1 p2 p3 p4 p5 hL1 (by rw [l1, l2]; omega) (by rw [l4, l5]; omega) l8
    clear hL1 hL2 l1 l2 l4 l5 l8
    rcases hm with ⟨rfl, rfl, rfl⟩ | ⟨rfl, rfl, rfl, rfl, rfl⟩ | ⟨rfl, rfl, rfl, rfl, rfl⟩ | ⟨rfl, rfl, rfl, rfl, rfl⟩ | ⟨rfl, rfl, rfl, rfl⟩
    all_goals
      go_wp2_with (go_at_call 12; refine (known_any _).mono ?_; rintro e w2 ⟨rfl, hf⟩; have F2 := Lib.hid hf; clear hf)
      go_ret
      exact ⟨rfl, (HF.out).trans F2.out⟩

namespace WireOrder
open Go.ChangeShapes Go.WideShapes Go.ChangeAt
open Go.ChangeMaps (open_string shut_string)

theorem own : ownKnob Try.prog.godebug = none := by kernel_rfl
theorem laidOut : laidOutB Try.prog = true := by kernel_rfl

set_option maxRecDepth 100000 in
theorem lifted (os : Os) (started : os.Started) (H : Type) (enc : TypeId × Value → H) :
    ReturnsInHanded {} Try.checked os 3 .any (Rows.wireOrderSpec.pre6 enc Try.prog Try.f3 Rows.wireOrderRow.domain false) (Rows.wireOrderSpec.post enc Try.prog Try.f3 false true false false) := by
  refine returnsInHanded_of_change (C := Try.checked) own started (by kernel_rfl) Try.func3
    (ChangeSpec.witness6 (enc := enc) (C := Try.checked) false ⟨#[], #[.int .u64 0, .int .u64 0], []⟩ 8 (by kernel_rfl) (by kernel_rfl) (by kernel_rfl) (by kernel_rfl)) ?_
  intro W base args ds gs before hval0 hW hcnd _
  have hval : ∀ (j : Nat) t v, Try.f3.params[j]? = some t → args[j]? = some v → Value.okWide Try.prog W .any base t v := hval0
  have hW' := hW
  obtain ⟨p, q, hA0, hV, rfl, hfz, hnd⟩ := hW
  have hA : DataW.TrodAll enc Try.prog W 0 (fun _ => true) true Try.f3.params.toList args.toList ds p := hA0
  rw [Try.params3] at hA hval
  obtain ⟨v0, vs0, d0', ds0, p0, q0, hargs, rfl, rfl, h0, r0⟩ := trodAll_cons hA
  obtain ⟨v1, vs1, d1', ds1, p1, q1, rfl, rfl, rfl, h1, r1⟩ := trodAll_cons r0
  obtain ⟨rfl, rfl, rfl⟩ := trodAll_nil r1
  obtain rfl : args = #[v0, v1] := by cases args; simp_all
  obtain ⟨rfl, rfl⟩ := trodVars_none hV
  obtain ⟨n0, rfl, rfl, rfl, hn0⟩ := open_int Try.underlying22 (hval 0 22 v0 rfl rfl) h0
  obtain ⟨m0, rfl, hm0⟩ := lit_u64 hn0
  obtain ⟨n1, rfl, rfl, rfl, hn1⟩ := open_int Try.underlying22 (hval 1 22 v1 rfl rfl) h1
  obtain ⟨m1, rfl, hm1⟩ := lit_u64 hn1
  clear hA0 hval0
  refine (wireOrder_any m0 m1 hm0 hm1 W).mono fun e W' ⟨he, hfr⟩ => ?_
  have bel : Below W.heap.size W W' := Fr0.below hfr
  subst he
  exact ⟨_, rfl, _, _, _, [], _, [], hW', trodAll_mk1 (shut_bool Try.underlying4 _), (trodAll_cons_mk (shut_int Try.underlying22 hn0) (trodAll_cons_mk (shut_int Try.underlying22 hn1) trodAll_mk0)), rfl, bel.frame _, fun h => by cases h⟩

theorem over : Rows.wireOrderRow.holds Try.pinned (OpenSpec.ofChange Rows.wireOrderSpec) :=
  OpenClaim.holds_of_wide 3 Try.f3 rfl rfl rfl rfl rfl rfl rfl ⟨rfl, rfl, rfl, rfl, rfl⟩ rfl rfl rfl rfl rfl (by kernel_rfl) Try.func3 (by kernel_rfl)
    (of_decide_eq_true (by kernel_rfl)) (by unfold Func.isWrapper; first | (rw [if_pos (by decide +kernel)]; kernel_rfl) | (rw [if_neg (by decide +kernel)]; exact ⟨rfl, rfl⟩))
    (fun os started H enc _ => lifted os started H enc)

theorem proved : Rows.WireOrderSaid := over
#print axioms proved
end WireOrder
end Go.Proofs.Ythgmimeheeajgaa
