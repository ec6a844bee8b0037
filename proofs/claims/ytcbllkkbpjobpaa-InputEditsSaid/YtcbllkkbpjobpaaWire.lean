/- Contracts of package wire: numbers' forms. Conditions stand in the statements. -/
import Derived.Test.YtcbllkkbpjobpaaWireC
namespace Go.Proofs.Ytcbllkkbpjobpaa
open Go.RowKit

theorem and127 (n : Nat) (hn : n < 18446744073709551616) : bits .and .u64 (n : Int) 127 = (n : Int) % 128 := by
  have h := u64_and_nat n 127 hn (by omega)
  have e : n &&& 127 = n % 128 := Nat.and_two_pow_sub_one_eq_mod n 7
  rw [e] at h
  have h' : bits .and .u64 (n : Int) 127 = ((n % 128 : Nat) : Int) := h
  rw [h']
  omega
theorem or128 (m : Nat) (hm : m < 128) : bits .or .u8 (m : Int) 128 = (m : Int) + 128 := by
  have h := u8_or_nat m 128 (by omega) (by omega)
  have e : m ||| 128 = 128 + m := by rw [Nat.or_comm]; exact nat_join 7 128 m (by decide) (by omega)
  rw [e] at h
  have h' : bits .or .u8 (m : Int) 128 = ((128 + m : Nat) : Int) := h
  rw [h']
  omega

theorem num_size (w : World) : (sizeOf 5).run Try.prog w = .ok 1 w := by kernel_rfl
theorem num_slice (w : World) (a : Addr) (k : Nat) (hk : k < 10) (i : Int) (hiW : i = k) :
    (Instr.sliceAt 78 (.pointer (some a)) (some (.int .i64 i)) none none).run Try.prog w = .ok (.slice (some (a.add k)) (10 - k) (10 - k)) w := by
  subst hiW
  have hl : Try.prog.arrayLen 78 = 10 := by kernel_rfl
  have he : Try.prog.elem 78 = 5 := by kernel_rfl
  rw [run_sliceAt_array_l (w := w) 78 a (by rw [hl, he]; exact Try.underlying78) .i64 (k : Int) (by omega) (by rw [hl]; omega), he, hl, num_size w]
  simp [Result.andThen, slicedAt]
  omega
theorem num_rest {w : World} {b : Nat} {pre : List Value} {suf : List UInt8} {t : TypeId} (h : Blk w b (pre ++ byts suf).toArray t) (hl : pre.length + suf.length = 10) (h0 : 0 < suf.length) :
    RdB w (.slice (some ⟨b, 10 - suf.length, none⟩) suf.length suf.length) suf := by
  unfold RdB
  refine ⟨by rw [byts_len, Nat.mul_one], ⟨_, _, rfl, Nat.le_refl _, by unfold maxLen; omega, fun h => by cases h⟩, fun _ => ⟨b, _, _, _, _, _, rfl, h, fun j u hu => ?_⟩⟩
  rw [List.getElem?_toArray, List.getElem?_append_right (by omega), show 10 - suf.length + j - pre.length = j by omega]
  exact hu

/-- What the loop of Num carries: what is left of the number, the bytes laid, the array. -/
def NumInv (n : Nat) (w wr : World) (m : Nat) (suf : List UInt8) : Prop :=
  m < 18446744073709551616 ∧ 0 < suf.length ∧ hiW m ++ suf = form n ∧ suf.length ≤ 10 ∧ Fr0 w wr ∧ ∃ pre : List Value, pre.length + suf.length = 10 ∧ Blk wr w.heap.size (pre ++ byts suf).toArray 78

set_option maxHeartbeats 400000 in
theorem wireNum_any (n : Nat) (hn : n < 18446744073709551616) (w : World) :
    Calls Try.prog 44 #[.int .u64 (n : Int)] w fun e w' => ∃ v, e = .returned v ∧ w'.ownsRow w.heap.size 5 1 v (form n).length (byts (form n)) ∧ Fr0 w w' := by
  have ha := and127 n hn
  have h2 : (n : Int) % 128 % 256 = (n : Int) % 128 := by omega
  have hx : ((UInt8.ofNat (n % 128)).toNat : Int) = (n : Int) % 128 := by rw [u8_of _ (by omega)]; omega
  have Hx := Lib.hid hx
  clear hx
  go_enter Try.func44, Try.ntmps44
  go_wp2_with fail
  clear ha h2
  go_loopw [0, 4] (fun v0 v4 wr => ∃ (m : Nat) (suf : List UInt8), v0 = .int .u64 (m : Int) ∧ v4 = .int .i64 (10 - suf.length) ∧ NumInv n w wr m suf) (fun v0 _ _ => (intOf v0).toNat)
  case atStart =>
    refine ⟨n / 128, [UInt8.ofNat (n % 128)], by simp, rfl, by omega, by simp, rfl, by simp, (Fr0.refl w).alloc _, List.replicate 9 (.int .u8 0), rfl, ?_⟩
    have e : (List.replicate 9 (Value.int .u8 0) ++ byts [UInt8.ofNat (n % 128)]).toArray = #[.int .u8 0, .int .u8 0, .int .u8 0, .int .u8 0, .int .u8 0, .int .u8 0, .int .u8 0, .int .u8 0, .int .u8 0, .int .u8 ((n : Int) % 128)] := by
      simp only [byts, List.map_cons, List.map_nil, Hx.out]; rfl
    rw [e]
    exact Blk.new _ _ _
  case round =>
    obtain ⟨m, suf, rfl, rfl, hm, hs0, hform, hs10, hf, pre, hpre, hblk⟩ := hrel
    by_cases h0 : 0 < m
    · have hlen := form_len_le hn
      rw [← hform, List.length_append, hi_pos h0, List.length_append] at hlen
      simp only [List.length_singleton] at hlen
      obtain ⟨pre', u, rfl⟩ : ∃ pre' u, pre = pre' ++ [u] := ⟨pre.dropLast, pre.getLast (by intro e; subst e; simp at hpre; omega), (List.dropLast_concat_getLast _).symm⟩
      have hp' : pre'.length = 9 - suf.length := by rw [List.length_append] at hpre; simp at hpre; omega
      have hat : (pre' ++ [u] ++ byts suf).toArray[9 - suf.length]? = some u := by
        rw [List.getElem?_toArray, List.append_assoc, List.getElem?_append_right (by omega), hp']; simp
      have cB : wr.cell? ⟨w.heap.size, 9 - suf.length, none⟩ = some u := hblk.cell _ hat
      have fB : wr.frozen? ⟨w.heap.size, 9 - suf.length, none⟩ = false := hblk.free _
      have ha := and127 m hm
      have h2 : (m : Int) % 128 % 256 = (m : Int) % 128 := by omega
      have ho : bits .or .u8 ((m : Int) % 128) 128 = (m : Int) % 128 + 128 := by
        have := or128 (m % 128) (by omega)
        rwa [show ((m % 128 : Nat) : Int) = (m : Int) % 128 from by omega] at this
      have hidx : ((10 : Int) - suf.length - 1).toNat = 9 - suf.length := by omega
      have hi0 : (0 : Int) ≤ (10 : Int) - suf.length - 1 := by omega
      have hi1 : (10 : Int) - suf.length - 1 < 10 := by omega
      have hw : IntKind.i64.wrap ((10 : Int) - suf.length - 1) = (10 : Int) - suf.length - 1 := IntWalk.i64_in _ (by omega)
      have HB := Lib.hid hblk
      clear hblk hat
      go_wp2_with fail
      clear ha h2 ho hidx hi0 hi1 hw cB fB
      go_roundw
      refine ⟨m / 128, UInt8.ofNat (128 + m % 128) :: suf, by simp, by simp; omega, Nat.lt_of_le_of_lt (Nat.div_le_self m 128) hm, by simp, ?_, by simp; omega, ?_, pre', by simp; omega, ?_⟩
      · rw [← hform, hi_pos h0, List.append_assoc]; rfl
      · exact Fr.setCell hf (.inr (Nat.le_refl _)) _
      · have HS := HB.out.set (9 - suf.length) (.int .u8 ((m : Int) % 128 + 128))
        have e : ((pre' ++ [u] ++ byts suf).toArray.setIfInBounds (9 - suf.length) (.int .u8 ((m : Int) % 128 + 128))) = (pre' ++ byts (UInt8.ofNat (128 + m % 128) :: suf)).toArray := by
          have hb : byts (UInt8.ofNat (128 + m % 128) :: suf) = Value.int .u8 ((m : Int) % 128 + 128) :: byts suf := by
            simp only [byts, List.map_cons]
            rw [u8_of _ (by omega)]
            congr 2; omega
          rw [hb, ← hp', List.append_assoc]
          simp
        rw [e] at HS
        exact HS
      · show ((m : Int) / 128).toNat < (m : Int).toNat
        omega
    · have : m = 0 := by omega
      subst this
      have k0 : (0 : Int) ≤ 10 - (suf.length : Int) := by omega
      have k1 : 10 - (suf.length : Int) ≤ 10 := by omega
      have k2 : (10 - (suf.length : Int)).toNat = 10 - suf.length := by omega
      have hs : form n = suf := by rw [← hform, hi_zero]; rfl
      have hlt : 10 - suf.length < 10 := by omega
      have rS := num_slice wr ⟨w.heap.size, 0, none⟩ (10 - suf.length) hlt _ (by omega : 10 - (suf.length : Int) = ((10 - suf.length : Nat) : Int))
      rw [show 10 - (10 - suf.length) = suf.length by omega] at rS
      have hrd : RdB wr (.slice (some ⟨w.heap.size, 10 - suf.length, none⟩) suf.length suf.length) suf := num_rest hblk hpre hs0
      clear hblk
      go_wp2_with fail
      refine (bytesClone_any hrd (by omega)).mono ?_
      rintro e w' ⟨v, rfl, hown, hf'⟩
      go_wp2_with fail
      go_ret
      rw [hs]
      exact ⟨v, rfl, own_baseW hown hf.size, hf.trans hf'⟩
end Go.Proofs.Ytcbllkkbpjobpaa
