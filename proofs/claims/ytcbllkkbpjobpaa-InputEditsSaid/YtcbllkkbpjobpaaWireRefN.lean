/- The reference's Num. Conditions stand in the statements. -/
import Derived.Test.YtcbllkkbpjobpaaWire
import Derived.Test.YtcbllkkbpjobpaaApp
import Derived.Test.YtcbllkkbpjobpaaWApp
namespace Go.Proofs.Ytcbllkkbpjobpaa
open Go.RowKit

def hs (m : Nat) : Nat → List UInt8
  | 0 => []
  | k + 1 => UInt8.ofNat (m / 128 ^ k % 128 + 128) :: hs m k
def grp (n : Nat) : Nat → List UInt8
  | 0 => []
  | k + 1 => UInt8.ofNat (n / 128 ^ k % 128 + if 0 < k then 128 else 0) :: grp n k
theorem hs_low (m : Nat) : ∀ k, hs m (k + 1) = hs (m / 128) k ++ [UInt8.ofNat (128 + m % 128)]
  | 0 => by simp [hs, Nat.add_comm]
  | k + 1 => by
    rw [hs, hs_low m k, hs, List.cons_append, Nat.div_div_eq_div_mul, show 128 * 128 ^ k = 128 ^ (k + 1) by rw [Nat.pow_succ, Nat.mul_comm]]
theorem hi_hs : ∀ (k m : Nat), m < 128 ^ k → (k = 0 ∨ 128 ^ (k - 1) ≤ m) → hiW m = hs m k := by
  intro k
  induction k with
  | zero => intro m h _; have : m = 0 := by simpa using h
            subst this; simp [hi_zero, hs]
  | succ k ih =>
    intro m h h'
    have hp : 128 ^ k ≤ m := by simpa using h'
    have h1 : 1 ≤ 128 ^ k := Nat.one_le_pow _ _ (by omega)
    rw [hi_pos (by omega), hs_low, ih (m / 128) (by rw [Nat.div_lt_iff_lt_mul (by omega)]; rw [Nat.pow_succ] at h; exact h)]
    rcases Nat.eq_zero_or_pos k with h0 | h0
    · exact .inl h0
    · refine .inr ?_
      rw [Nat.le_div_iff_mul_le (by omega), ← Nat.pow_succ, show (k - 1).succ = k by omega]
      exact hp
theorem grp_hs (n : Nat) : ∀ k, grp n (k + 1) = hs (n / 128) k ++ [UInt8.ofNat (n % 128)]
  | 0 => by simp [grp, hs]
  | k + 1 => by
    rw [grp, grp_hs n k, hs, List.cons_append, Nat.div_div_eq_div_mul, show 128 * 128 ^ k = 128 ^ (k + 1) by rw [Nat.pow_succ, Nat.mul_comm], if_pos (by omega)]
theorem form_grp (n g : Nat) (h1 : 1 ≤ g) (h : n < 128 ^ g) (h' : g = 1 ∨ 128 ^ (g - 1) ≤ n) : form n = grp n g := by
  obtain ⟨k, rfl⟩ : ∃ k, g = k + 1 := ⟨g - 1, by omega⟩
  rw [grp_hs, form, hi_hs k]
  · rw [Nat.div_lt_iff_lt_mul (by omega), ← Nat.pow_succ]; exact h
  · rcases Nat.eq_zero_or_pos k with h0 | h0
    · exact .inl h0
    · refine .inr ?_
      rcases h' with h' | h'
      · omega
      · rw [Nat.le_div_iff_mul_le (by omega), ← Nat.pow_succ, show (k - 1).succ = k by omega]
        simpa using h'
theorem grp_len (n : Nat) : ∀ k, (grp n k).length = k
  | 0 => rfl
  | k + 1 => by simp [grp, grp_len n k]

theorem pow7 (i : Nat) : 2 ^ (7 * i) = 128 ^ i := by rw [Nat.pow_mul]
theorem shr7 (n i : Nat) : (n : Int) / 2 ^ ((7 * (i : Int)).toNat) = ((n / 128 ^ i : Nat) : Int) := by
  have e : (7 * (i : Int)).toNat = 7 * i := by omega
  rw [e, ← pow7]
  simp

set_option maxHeartbeats 400000 in
set_option maxRecDepth 100000 in
theorem refNum_any (n : Nat) (hn : n < 18446744073709551616) (w : World) :
    Calls Try.prog 51 #[.int .u64 (n : Int)] w fun e w' => ∃ v, e = .returned v ∧ w'.ownsRow w.heap.size 5 1 v (form n).length (byts (form n)) ∧ Fr0 w w' := by
  obtain ⟨i0, hiW, hz0, hz1, hz2⟩ := info_parts infoU8
  have Hi := Lib.hid hiW
  clear hiW
  go_enter Try.func51, Try.ntmps51
  go_wp2_with fail
  go_loopw [3] (fun v3 wr => wr = w ∧ ∃ g : Nat, v3 = .int .i64 (g : Int) ∧ 1 ≤ g ∧ g ≤ 10 ∧ (g = 1 ∨ 128 ^ (g - 1) ≤ n)) (fun v3 _ => 10 - (intOf v3).toNat)
  case atStart => exact ⟨rfl, 1, rfl, by omega, by omega, .inl rfl⟩
  case round =>
    obtain ⟨hww, g, rfl, hg1, hg10, hp⟩ := hrel
    obtain rfl : w = wr := hww.symm
    by_cases hc : g < 10 ∧ 0 < n / 128 ^ g
    · obtain ⟨hc1, hc2⟩ := hc
      have q0 : decide ((g : Int) < 10) = true := by simp; omega
      have e4 : IntKind.i64.wrap (7 * (g : Int)) = 7 * (g : Int) := IntWalk.i64_in _ (by omega)
      have e5 : IntKind.u64.wrap (7 * (g : Int)) = 7 * (g : Int) := by show (7 * (g : Int)) % 18446744073709551616 = _; omega
      have es := shr7 n g
      obtain ⟨q, hq⟩ : ∃ q, q = n / 128 ^ g := ⟨_, rfl⟩
      rw [← hq] at es hc2
      have q1 : decide (0 < (q : Int)) = true := by simp; omega
      have q2 : decide (0 < q) = true := by simpa using hc2
      have HQ := Lib.hid hq
      have HC := Lib.hid hc2
      clear hq hc2
      go_wp2_with fail
      go_roundw
      case rel =>
        refine ⟨trivial, g + 1, by simp, by omega, by omega, .inr ?_⟩
        have h1 := HC.out
        rw [HQ.out] at h1
        rw [show g + 1 - 1 = g by omega]
        exact (Nat.div_pos_iff.1 h1).2
      case measure => simp [intOf]; omega
    · have hlt : n < 128 ^ g := by
        rcases Nat.lt_or_ge g 10 with h | h
        · have h0 : ¬ 0 < n / 128 ^ g := fun h' => hc ⟨h, h'⟩
          rcases Nat.lt_or_ge n (128 ^ g) with h' | h'
          · exact h'
          · exact absurd (Nat.div_pos h' (Nat.pow_pos (by omega))) h0
        · have : g = 10 := by omega
          subst this
          have : (128 : Nat) ^ 10 = 1180591620717411303424 := by decide
          omega
      have hF := form_grp n g hg1 hlt hp
      have HF := Lib.hid hF
      have e4 : IntKind.i64.wrap (7 * (g : Int)) = 7 * (g : Int) := IntWalk.i64_in _ (by omega)
      have e5 : IntKind.u64.wrap (7 * (g : Int)) = 7 * (g : Int) := by show (7 * (g : Int)) % 18446744073709551616 = _; omega
      have es := shr7 n g
      obtain ⟨q, hq⟩ : ∃ q, q = n / 128 ^ g := ⟨_, rfl⟩
      rw [← hq] at es
      have hq0 : q = 0 := by rw [hq]; exact Nat.div_eq_of_lt hlt
      have q1 : decide (0 < (q : Int)) = false := by simp; omega
      have q2 : decide (0 < q) = false := by simp; omega
      have e2 : IntKind.i64.wrap ((g : Int) - 1) = (g : Int) - 1 := IntWalk.i64_in _ (by omega)
      clear hF hlt hc hp hq hq0
      have go : ∀ {X : Prop}, (decide ((g : Int) < 10) = true → X) → (decide ((g : Int) < 10) = false → X) → X := fun h1 h2 => (Bool.eq_false_or_eq_true _).elim h1 h2
      refine go (fun q0 => ?_) (fun q0 => ?_)
      all_goals
        clear go
        have hg9 := q0
        simp only [decide_eq_true_eq, decide_eq_false_iff_not] at hg9
        go_wp2_with fail
        clear q0 e4 e5 es e2 q1 q2
        go_loopw [4, 5] (fun v4 v5 w2 => ∃ (k : Nat) (A : Option Addr) (c : Nat) (o : List UInt8), v5 = .int .i64 ((k : Int) - 1) ∧ k ≤ g ∧ v4 = .slice A o.length c ∧ Fr0 w w2 ∧ w2.ownsRow w.heap.size 5 1 (.slice A o.length c) o.length (byts o) ∧ o ++ grp n k = grp n g ∧ o.length + k = g) (fun _ v5 _ => (intOf v5 + 1).toNat)
        case atStart => exact ⟨g, none, 0, [], rfl, by omega, rfl, Fr0.refl w, World.ownsRow_nil _ _ _ _, rfl, by simp⟩
        case round =>
          obtain ⟨k, A, c, o, rfl, hk, rfl, hf, hown, hform, hlen⟩ := hrel
          rcases Nat.eq_zero_or_pos k with hk0 | hk0
          · subst hk0
            have q0 : decide ((0 : Int) ≤ ((0 : Nat) : Int) - 1) = false := by decide
            have HFF := Lib.hid hform
            clear hform hlen
            go_wp2_with fail
            go_ret
            have e1 := HFF.out
            rw [grp, List.append_nil, ← HF.out] at e1
            subst e1
            exact ⟨_, rfl, hown, hf⟩
          · obtain ⟨i, rfl⟩ : ∃ i, k = i + 1 := ⟨k - 1, by omega⟩
            have e0 : (((i + 1 : Nat) : Int) - 1) = (i : Int) := by omega
            rw [e0]
            have q0 : decide ((0 : Int) ≤ (i : Int)) = true := by simp
            have e4 : IntKind.i64.wrap (7 * (i : Int)) = 7 * (i : Int) := IntWalk.i64_in _ (by omega)
            have e5 : IntKind.u64.wrap (7 * (i : Int)) = 7 * (i : Int) := by show (7 * (i : Int)) % 18446744073709551616 = _; omega
            have es := shr7 n i
            obtain ⟨q, hq⟩ : ∃ q, q = n / 128 ^ i := ⟨_, rfl⟩
            rw [← hq] at es
            have HO := Lib.hid hown
            have HQ := Lib.hid hq
            have HFF := Lib.hid hform
            have HL := Lib.hid hlen
            have hl7 : o.length ≤ 9 := by omega
            have hf' := Lib.hid hf
            have e6 : (q : Int) % 128 % 256 = (q : Int) % 128 := by omega
            clear hown hq hform hlen e0 hf
            rcases Nat.eq_zero_or_pos i with hi0 | hi0
            · have q3 : decide (0 < (i : Int)) = false := by simp; omega
              have q4 : decide (0 < i) = false := by simp; omega
              have I0 := Lib.hid hi0
              clear hi0
              go_wp2_with (at_builtin; refine wpList_append_rd _ rfl _ _ 26 rfl w.heap.size 5 i0 (.int .u8 0) 1 1 Try.underlying26 Hi.out hz0 hz1 hz2 rfl (by decide) _ _ _ rfl ((HO.out).alloc _) _ 1 _ rfl (rd_oneW _ _) (one_cell _) (by unfold maxLen; omega) (by omega) ((hf'.out).alloc _).size ?_; intro v' w2 hown' hgrow; obtain ⟨A', c', rfl, -, -, -⟩ := own_form hown')
              clear q0 e4 e5 es q3 q4 e6
              go_roundw
              case measure => simp [intOf]
              refine ⟨i, A', c', o ++ [UInt8.ofNat (n / 128 ^ i % 128 + if 0 < i then 128 else 0)], rfl, by omega, by simp, Fr.grown ((hf'.out).alloc _) hgrow (fun k hk => .inr (own_lt' (HO.out) k hk).1), ?_, ?_, ?_⟩
              · have e : byts (o ++ [UInt8.ofNat (n / 128 ^ i % 128 + if 0 < i then 128 else 0)]) = byts o ++ [.int .u8 ((q : Int) % 128)] := by
                  rw [← HQ.out, if_neg (by have := I0.out; omega), byts_app]
                  simp [byts]
                  omega
                rw [e, List.length_append]
                exact hown'
              · rw [← HFF.out, grp]; simp
              · have := HL.out; simp; omega
            · have q3 : decide (0 < (i : Int)) = true := by simp; omega
              have q4 : decide (0 < i) = true := by simp; omega
              have e7 : ((q : Int) % 128 + 128) % 256 = (q : Int) % 128 + 128 := by omega
              have e8 : IntKind.u8.wrap ((q : Int) % 128 + 128) = (q : Int) % 128 + 128 := by show ((q : Int) % 128 + 128) % 256 = _; omega
              have I0 := Lib.hid hi0
              clear hi0
              go_wp2_with (at_builtin; refine wpList_append_rd _ rfl _ _ 26 rfl w.heap.size 5 i0 (.int .u8 0) 1 1 Try.underlying26 Hi.out hz0 hz1 hz2 rfl (by decide) _ _ _ rfl ((HO.out).alloc _) _ 1 _ rfl (rd_oneW _ _) (one_cell _) (by unfold maxLen; omega) (by omega) ((hf'.out).alloc _).size ?_; intro v' w2 hown' hgrow; obtain ⟨A', c', rfl, -, -, -⟩ := own_form hown')
              clear q0 e4 e5 es q3 q4 e6 e7 e8
              go_roundw
              case measure => simp [intOf]
              refine ⟨i, A', c', o ++ [UInt8.ofNat (n / 128 ^ i % 128 + if 0 < i then 128 else 0)], rfl, by omega, by simp, Fr.grown ((hf'.out).alloc _) hgrow (fun k hk => .inr (own_lt' (HO.out) k hk).1), ?_, ?_, ?_⟩
              · have e : byts (o ++ [UInt8.ofNat (n / 128 ^ i % 128 + if 0 < i then 128 else 0)]) = byts o ++ [.int .u8 ((q : Int) % 128 + 128)] := by
                  rw [← HQ.out, if_pos (by have := I0.out; omega), byts_app]
                  simp [byts]
                  omega
                rw [e, List.length_append]
                exact hown'
              · rw [← HFF.out, grp]; simp
              · have := HL.out; simp; omega

end Go.Proofs.Ytcbllkkbpjobpaa
