/- Contracts of package wire: Text, Open, number. Conditions stand in the statements. -/
import Derived.Test.YtcbllkkbpjobpaaWire
namespace Go.Proofs.Ytcbllkkbpjobpaa
open Go.RowKit

theorem rdNum_lt : ∀ (d : List UInt8) (i n : Nat), (rdNum d i n).2 ≤ d.length + i ∧ (rdNum d i n).1 < 18446744073709551616 := by
  intro d
  induction d with
  | nil => intro i n; simp [rdNum]
  | cons x r ih =>
    intro i n
    have := ih (i + 1) (n * 128 + x.toNat % 128)
    rw [rdNum]
    split
    · simp
    · rename_i h
      split
      · simp; omega
      · simp; omega

theorem and127b (n : Nat) (hn : n < 256) : bits .and .u8 (n : Int) 127 = (n : Int) % 128 := by
  have h := u8_and_nat n 127 hn (by omega)
  have e : n &&& 127 = n % 128 := Nat.and_two_pow_sub_one_eq_mod n 7
  rw [e] at h
  have h' : bits .and .u8 (n : Int) 127 = ((n % 128 : Nat) : Int) := h
  rw [h']
  omega
theorem or7 (n m : Nat) (hn : n ≤ 144115188075855871) (hm : m < 128) : bits .or .u64 ((n : Int) * 128) (m : Int) = (n : Int) * 128 + (m : Int) := by
  have h := u64_or_nat (n * 128) m (by omega) (by omega)
  have e : n * 128 ||| m = n * 128 + m := by
    have := nat_join 7 (n * 128) m (by omega) (by omega)
    exact this
  rw [e] at h
  have h' : bits .or .u64 ((n * 128 : Nat) : Int) (m : Int) = ((n * 128 + m : Nat) : Int) := h
  rw [show ((n * 128 : Nat) : Int) = (n : Int) * 128 by omega] at h'
  rw [h']
  omega

def rd (d : List UInt8) : Nat × Nat := rdNum d 0 0

set_option maxHeartbeats 400000 in
set_option maxRecDepth 100000 in
theorem number_any {v : Value} {d : List UInt8} {w : World} (h : RdB w v d) (hn : d.length ≤ 100000000) :
    Calls Try.prog 47 #[v] w fun e w' => e = .returned (.tuple #[.int .u64 ((rd d).1 : Nat), .int .i64 ((rd d).2 : Nat)]) ∧ w' = w := by
  obtain ⟨A, c, rfl, hnc, hcm, hnone⟩ := h.form
  go_enter Try.func47, Try.ntmps47
  go_wp2_with fail
  go_loopw [4, 9] (fun v4 v9 wr => wr = w ∧ ∃ (i n : Nat), v4 = .int .u64 (n : Int) ∧ v9 = .int .i64 (i : Int) ∧ n < 18446744073709551616 ∧ i ≤ d.length ∧ rdNum (d.drop i) i n = rd d) (fun _ v9 _ => d.length - (intOf v9).toNat)
  case atStart => exact ⟨rfl, 0, 0, rfl, rfl, by omega, by omega, by simp [rd]⟩
  case round =>
    obtain ⟨rfl, i, n, rfl, rfl, hn, hiW, hr⟩ := hrel
    by_cases hlt : i < d.length
    · obtain ⟨g, off, c', hv, hic, hg, hc⟩ := h.cell hlt
      injection hv with hA _ hcc
      subst hA hcc
      rw [List.drop_eq_getElem_cons hlt, rdNum] at hr
      obtain ⟨x, hx⟩ : ∃ x, x = d[i] := ⟨_, rfl⟩
      rw [← hx] at hr hc
      have H := Lib.hid h
      have Hr := Lib.hid hr
      have hxl : x.toNat < 256 := x.toNat_lt
      obtain ⟨y, hy⟩ : ∃ y, y = x.toNat := ⟨_, rfl⟩
      rw [← hy] at hxl hc
      have Hy := Lib.hid hy
      have ei : wr.cell? ⟨g, off + i, none⟩ = some (.int .u8 (y : Int)) := hc
      clear h hr hc hx hy
      by_cases c1 : (i = 0 ∧ y = 128) ∨ 144115188075855871 < n
      · have hw : rd d = (0, 0) := by rw [← Hr.out, if_pos]; rw [u8_eq, ← Hy.out]; exact c1
        have HW := Lib.hid hw
        clear hw Hr
        by_cases c2 : i = 0
        · have b2 : ((i : Int) == 0) = true := by simp; omega
          by_cases c3 : y = 128
          · have b3 : ((y : Int) == 128) = true := by simp; omega
            clear c1 c2 c3
            go_wp2_with fail
            go_ret2
            exact ⟨by rw [HW.out]; rfl, rfl⟩
          · have b3 : ((y : Int) == 128) = false := by simp; omega
            have c4 : decide (144115188075855871 < (n : Int)) = true := by simp; omega
            clear c1 c2 c3
            go_wp2_with fail
            go_ret2
            exact ⟨by rw [HW.out]; rfl, rfl⟩
        · have b2 : ((i : Int) == 0) = false := by simp; omega
          have c4 : decide (144115188075855871 < (n : Int)) = true := by simp; omega
          clear c1 c2
          go_wp2_with fail
          go_ret2
          exact ⟨by rw [HW.out]; rfl, rfl⟩
      · have hw := Hr.out
        rw [if_neg (by rw [u8_eq, ← Hy.out]; exact c1)] at hw
        have c4 : decide (144115188075855871 < (n : Int)) = false := by simp; omega
        have ea := and127b y hxl
        have eo := or7 n (y % 128) (by omega) (by omega)
        rw [show ((y % 128 : Nat) : Int) = (y : Int) % 128 from by omega] at eo
        have es : (n : Int) * 128 % 18446744073709551616 = (n : Int) * 128 := by omega
        have ey : (y : Int) % 128 % 18446744073709551616 = (y : Int) % 128 := by omega
        have ew : IntKind.u64.wrap ((n : Int) * 128) = (n : Int) * 128 := by show (n : Int) * 128 % 18446744073709551616 = _; omega
        have ew2 : IntKind.u64.wrap ((y : Int) % 128) = (y : Int) % 128 := by show (y : Int) % 128 % 18446744073709551616 = _; omega
        have c7 : n ≤ 144115188075855871 := by omega
        clear hn
        by_cases c2 : i = 0
        · have b2 : ((i : Int) == 0) = true := by simp; omega
          have b3 : ((y : Int) == 128) = false := by simp; omega
          by_cases c5 : x < 128
          · rw [if_pos c5] at hw
            have c6 : decide ((y : Int) < 128) = true := by rw [u8_lt, ← Hy.out] at c5; simp; omega
            have HW := Lib.hid hw
            clear hw c1 c2 Hr c5
            go_wp2_with fail
            go_ret2
            exact ⟨by rw [← HW.out, ← Hy.out]; congr 3, rfl⟩
          · rw [if_neg c5, ← Hy.out] at hw
            have c6 : decide ((y : Int) < 128) = false := by rw [u8_lt, ← Hy.out] at c5; simp; omega
            have HW := Lib.hid hw
            clear hw c1 c2 Hr c5
            go_wp2_with fail
            go_roundw
            case rel => exact ⟨trivial, i + 1, n * 128 + y % 128, by go_num, by go_num, by omega, by omega, HW.out⟩
            case measure => simp [intOf]; omega
        · have b2 : ((i : Int) == 0) = false := by simp; omega
          by_cases c5 : x < 128
          · rw [if_pos c5] at hw
            have c6 : decide ((y : Int) < 128) = true := by rw [u8_lt, ← Hy.out] at c5; simp; omega
            have HW := Lib.hid hw
            clear hw c1 c2 Hr c5
            go_wp2_with fail
            go_ret2
            exact ⟨by rw [← HW.out, ← Hy.out]; congr 3, rfl⟩
          · rw [if_neg c5, ← Hy.out] at hw
            have c6 : decide ((y : Int) < 128) = false := by rw [u8_lt, ← Hy.out] at c5; simp; omega
            have HW := Lib.hid hw
            clear hw c1 c2 Hr c5
            go_wp2_with fail
            go_roundw
            case rel => exact ⟨trivial, i + 1, n * 128 + y % 128, by go_num, by go_num, by omega, by omega, HW.out⟩
            case measure => simp [intOf]; omega
    · have e : i = d.length := by omega
      subst e
      rw [List.drop_length, rdNum] at hr
      have Hr := Lib.hid hr
      clear hr
      go_wp2_with fail
      go_ret2
      rw [← Hr.out]; exact ⟨rfl, rfl⟩
end Go.Proofs.Ytcbllkkbpjobpaa
