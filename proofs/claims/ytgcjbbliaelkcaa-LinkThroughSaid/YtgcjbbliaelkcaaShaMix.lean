/- How words are mixed. Conditions stand in the statements. -/
import Derived.Test.YtgcjbbliaelkcaaShaRot
namespace Go.Proofs.Ytgcjbbliaelkcaa
open Go.RowKit

theorem quiet_leftS {P : Program} {f : FuncId} {args : Array Value} {w : World} {n : Nat} {v : Value}
    (h : Calls P f args (w.drewN n) fun e w' => e = .returned v ∧ w.drewN n = w') : Calls P f args (w.drewN n) fun e w'' => e = .returned v ∧ ∃ m, w'' = w.drewN m :=
  h.mono fun _ _ ⟨he, hm⟩ => ⟨he, n, hm.symm⟩
theorem rotr_lt {x a : Nat} (hx : x < 4294967296) : rotr x a < 4294967296 := by
  unfold rotr
  exact Nat.or_lt_two_pow (n := 32) (Nat.mod_lt _ (by decide)) (Nat.lt_of_le_of_lt (Nat.div_le_self _ _) hx)
theorem xor_lt {a b : Nat} (ha : a < 4294967296) (hb : b < 4294967296) : a ^^^ b < 4294967296 := Nat.xor_lt_two_pow (n := 32) ha hb
def mixT (x a b c : Nat) : Nat := rotr x a ^^^ rotr x b ^^^ rotr x c
def mixS (x a b c : Nat) : Nat := rotr x a ^^^ rotr x b ^^^ x / 2 ^ c
theorem mixT_lt {x a b c : Nat} (hx : x < 4294967296) : mixT x a b c < 4294967296 := xor_lt (xor_lt (rotr_lt hx) (rotr_lt hx)) (rotr_lt hx)
theorem mixS_lt {x a b c : Nat} (hx : x < 4294967296) : mixS x a b c < 4294967296 := xor_lt (xor_lt (rotr_lt hx) (rotr_lt hx)) (Nat.lt_of_le_of_lt (Nat.div_le_self _ _) hx)
set_option maxHeartbeats 1000000 in
theorem mixT_any (x a b c : Nat) (w : World) (hx : x < 4294967296) (ha : 1 ≤ a ∧ a ≤ 31) (hb : 1 ≤ b ∧ b ≤ 31) (hc : 1 ≤ c ∧ c ≤ 31) :
    Calls Try.prog 70 #[.int .u32 x, .int .i64 a, .int .i64 b, .int .i64 c] w fun e w' => e = .returned (.int .u32 (mixT x a b c : Nat)) ∧ w = w' := by
  have HA := Lib.hid (rot_any x a w hx ha.1 ha.2)
  have HB := Lib.hid (rot_any x b w hx hb.1 hb.2)
  have HC := Lib.hid (rot_any x c w hx hc.1 hc.2)
  have la := rotr_lt (a := a) hx
  have lb := rotr_lt (a := b) hx
  have lc := rotr_lt (a := c) hx
  have HM := Lib.hid (show mixT x a b c = rotr x a ^^^ rotr x b ^^^ rotr x c from rfl)
  obtain ⟨ra, hra⟩ : ∃ r, r = rotr x a := ⟨_, rfl⟩
  obtain ⟨rb, hrb⟩ : ∃ r, r = rotr x b := ⟨_, rfl⟩
  obtain ⟨rc, hrc⟩ : ∃ r, r = rotr x c := ⟨_, rfl⟩
  rw [← hra] at HA la HM
  rw [← hrb] at HB lb HM
  rw [← hrc] at HC lc HM
  have e1 := u32_xor_nat ra rb la lb
  have e2 := u32_xor_nat (ra ^^^ rb) rc (xor_lt la lb) lc
  clear hra hrb hrc
  go_enter Try.func70, Try.ntmps70
  go_wp2_with (go_at_call 71; first | ((with_reducible refine (HA.out).mono ?_); rintro e w' ⟨rfl, rfl⟩) | ((with_reducible refine (HB.out).mono ?_); rintro e w' ⟨rfl, rfl⟩) | ((with_reducible refine (HC.out).mono ?_); rintro e w' ⟨rfl, rfl⟩))
  go_ret
  exact ⟨by rw [HM.out]; rfl, rfl⟩
set_option maxHeartbeats 1000000 in
theorem mixS_any (x a b c : Nat) (w : World) (hx : x < 4294967296) (ha : 1 ≤ a ∧ a ≤ 31) (hb : 1 ≤ b ∧ b ≤ 31) (hc : 1 ≤ c ∧ c ≤ 31) :
    Calls Try.prog 83 #[.int .u32 x, .int .i64 a, .int .i64 b, .int .i64 c] w fun e w' => e = .returned (.int .u32 (mixS x a b c : Nat)) ∧ ∃ n, w' = w.drewN n := by
  have HA := Lib.hid (fun w => rot_any x a w hx ha.1 ha.2)
  have HB := Lib.hid (fun w => rot_any x b w hx hb.1 hb.2)
  have la := rotr_lt (a := a) hx
  have lb := rotr_lt (a := b) hx
  have HM := Lib.hid (show mixS x a b c = rotr x a ^^^ rotr x b ^^^ x / 2 ^ c from rfl)
  obtain ⟨ra, hra⟩ : ∃ r, r = rotr x a := ⟨_, rfl⟩
  obtain ⟨rb, hrb⟩ : ∃ r, r = rotr x b := ⟨_, rfl⟩
  rw [← hra] at HA la HM
  rw [← hrb] at HB lb HM
  have e1 := u32_xor_nat ra rb la lb
  have lc : x / 2 ^ c < 4294967296 := Nat.lt_of_le_of_lt (Nat.div_le_self _ _) hx
  have e2 := u32_xor_nat (ra ^^^ rb) (x / 2 ^ c) (xor_lt la lb) lc
  have e3 : (x : Int) / 2 ^ c = ((x / 2 ^ c : Nat) : Int) := by rw [Int.natCast_ediv, Int.natCast_pow]; rfl
  obtain ⟨xc, hxc⟩ : ∃ r, r = x / 2 ^ c := ⟨_, rfl⟩
  rw [← hxc] at e2 e3 HM lc
  clear hra hrb hxc
  go_enter Try.func83, Try.ntmps83
  go_wp2
  go_quiet ((go_at_call 71; first | (with_reducible exact quiet_leftS (HA.out _)) | (with_reducible exact quiet_leftS (HB.out _))))
  go_wp2
  go_ret
  exact ⟨by rw [HM.out]; rfl, _, rfl⟩
end Go.Proofs.Ytgcjbbliaelkcaa
