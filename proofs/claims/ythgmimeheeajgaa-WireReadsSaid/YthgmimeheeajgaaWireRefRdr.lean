/- The reference's reader. Conditions stand in the statements. -/
import Derived.Test.YthgmimeheeajgaaWireRefForm
import Derived.Test.YthgmimeheeajgaaWApp
namespace Go.Proofs.Ythgmimeheeajgaa
open Go.RowKit

/-- The reference's reader, its slice named. -/
structure RefV (B0 : Nat) (w : World) (p : Nat) (A : Option Addr) (c : Nat) (d : List UInt8) (e : Int) : Prop where
  blk : Blk w p #[.slice A d.length c, .int .i64 e] 44
  rd : RdB w (.slice A d.length c) d
  lt : 0 < d.length → ∀ g, Value.blk (.slice A d.length c) = some g → g < B0
  ge : B0 ≤ p
section
variable {w w' : World} {B0 p : Nat} {A : Option Addr} {c : Nat} {d : List UInt8} {e : Int}
theorem RefV.ne (h : RefV B0 w p A c d e) : 0 < d.length → Value.blk (.slice A d.length c) ≠ some p := fun h0 hp => by have := h.lt h0 p hp; have := h.ge; omega
theorem RefV.fr0 (h : RefV B0 w p A c d e) (hf : Fr0 w w') : RefV B0 w' p A c d e := ⟨h.blk.fr0 hf, h.rd.fr0 hf, h.lt, h.ge⟩
theorem RefV.fr1 (h : RefV B0 w p A c d e) {q : Nat} (hf : Fr1 q w w') (hq : B0 ≤ q) (hpq : p ≠ q) : RefV B0 w' p A c d e :=
  ⟨h.blk.fr1 hf hpq, RdB.fr1 h.rd hf (fun h0 hp => by have := h.lt h0 q hp; omega), h.lt, h.ge⟩
theorem RefV.err (h : RefV B0 w p A c d e) (e' : Int) : RefV B0 (w.setCell ⟨p, 1, none⟩ (.int .i64 e')) p A c d e' :=
  ⟨h.blk.set 1 _, RdB.fr1 h.rd ((Fr1.refl p w).set 1 _) h.ne, h.lt, h.ge⟩
theorem RefV.cut (h : RefV B0 w p A c d e) {k : Nat} {A' : Option Addr} (hr : RdB w (.slice A' (d.length - k) (c - k)) (d.drop k)) (hb : ∀ g, Value.blk (.slice A' (d.length - k) (c - k)) = some g → Value.blk (.slice A d.length c) = some g) :
    RefV B0 (w.setCell ⟨p, 0, none⟩ (.slice A' (d.length - k) (c - k))) p A' (c - k) (d.drop k) e := by
  have hl : (d.drop k).length = d.length - k := List.length_drop
  have hne : 0 < (d.drop k).length → Value.blk (.slice A' (d.length - k) (c - k)) ≠ some p := fun h0 hp => h.ne (by omega) (hb p hp)
  refine ⟨?_, ?_, ?_, h.ge⟩
  · rw [hl]; exact h.blk.set 0 _
  · rw [hl]; exact RdB.fr1 hr ((Fr1.refl p w).set 0 _) hne
  · rw [hl]; intro h0 g hg; exact h.lt (by omega) g (hb g hg)
end

set_option maxHeartbeats 1000000 in
theorem fnum_any {B0 p : Nat} {A : Option Addr} {c : Nat} {d : List UInt8} {e : Int} {w : World} (h : RefV B0 w p A c d e) (hn : d.length ≤ 100000000) :
    Calls Try.prog 24 #[.pointer (some ⟨p, 0, none⟩)] w fun x w' => x = .returned (.int .u64 ((rNum d e).1 : Nat)) ∧ Fr1 p w w' ∧ ∃ A' c', RefV B0 w' p A' c' (rNum d e).2.1 (rNum d e).2.2 := by
  have c0 : w.cell? ⟨p, 0, none⟩ = some (.slice A d.length c) := h.blk.cell 0 rfl
  have c1 : w.cell? ⟨p, 1, none⟩ = some (.int .i64 e) := h.blk.cell 1 rfl
  have H := Lib.hid h
  by_cases he : e = 0
  · have b0 : (e != 0) = false := by simpa using he
    have HF := Lib.hid (refForm_any h.rd hn)
    obtain ⟨hk1, hk2⟩ := rdNum_lt d 0 0
    rw [show rdNum d 0 0 = rd d from rfl] at hk1 hk2
    by_cases hk : (rd d).2 = 0
    · have e1 : rNum d e = (0, d, 4) := by unfold rNum; rw [if_neg (by simpa using he), if_pos hk]
      have E1 := Lib.hid e1
      obtain ⟨N, hN⟩ : ∃ N, N = rd d := ⟨_, rfl⟩
      rw [← hN] at HF hk hk1 hk2
      have b1 : ((N.2 : Int) == 0) = true := by simp; omega
      clear e1 he h hk hN
      go_enter Try.func24, Try.ntmps24
      go_wp2_with (go_at_call 37; refine (HF.out).mono ?_; rintro x w2 ⟨rfl, hf⟩; have F := Lib.hid hf; have f1 : w2.frozen? ⟨p, 1, none⟩ = false := ((H.out).blk.fr0 hf).free 1; have d1 : w2.cell? ⟨p, 1, none⟩ = some (.int .i64 e) := ((H.out).blk.fr0 hf).cell 1 rfl; clear hf)
      go_ret
      rw [E1.out]
      exact ⟨rfl, (Fr1.of0 F.out).set 1 _, A, c, ((H.out).fr0 F.out).err 4⟩
    · have e1 : rNum d e = ((rd d).1, d.drop (rd d).2, 0) := by unfold rNum; rw [if_neg (by simpa using he), if_neg hk]
      have E1 := Lib.hid e1
      have HE := Lib.hid he
      obtain ⟨A', hsl, hr2, hbk⟩ := slice_from (P := Try.prog) (T := 23) (e := 5) Try.underlying23 (fun _ => by kernel_rfl) (k := (rd d).2) h.rd (by omega) ((rd d).2 : Int) rfl
      have HR2 := Lib.hid hr2
      have HBK := Lib.hid hbk
      obtain ⟨N, hN⟩ : ∃ N, N = rd d := ⟨_, rfl⟩
      rw [← hN] at HF hk hk1 hk2 hsl HR2 HBK E1
      have b1 : ((N.2 : Int) == 0) = false := by simp; omega
      clear e1 he h hk hN hr2 hbk
      go_enter Try.func24, Try.ntmps24
      go_wp2_with (go_at_call 37; refine (HF.out).mono ?_; rintro x w2 ⟨rfl, hf⟩; have F := Lib.hid hf; have f1 : w2.frozen? ⟨p, 0, none⟩ = false := ((H.out).blk.fr0 hf).free 0; have d1 : w2.cell? ⟨p, 0, none⟩ = some (.slice A d.length c) := ((H.out).blk.fr0 hf).cell 0 rfl; clear hf)
      go_ret
      rw [E1.out]
      have := ((H.out).fr0 F.out).cut (RdB.fr0 HR2.out F.out) HBK.out
      rw [HE.out] at this
      exact ⟨rfl, (Fr1.of0 F.out).set 0 _, A', _, this⟩
  · have b0 : (e != 0) = true := by simpa using he
    have e1 : rNum d e = (0, d, e) := by unfold rNum; rw [if_pos he]
    have E1 := Lib.hid e1
    clear e1 he h
    go_enter Try.func24, Try.ntmps24
    go_wp2_with fail
    go_ret
    rw [E1.out]
    exact ⟨rfl, Fr1.refl _ _, A, c, H.out⟩

set_option maxHeartbeats 1000000 in
set_option maxRecDepth 100000 in
theorem ffixed_any {B0 p : Nat} {A : Option Addr} {c : Nat} {d : List UInt8} {e : Int} {size : Int} {w : World} (h : RefV B0 w p A c d e) (_hn : d.length ≤ 100000000) (hm : -9223372036854775808 ≤ size ∧ size ≤ 9223372036854775807) :
    Calls Try.prog 25 #[.pointer (some ⟨p, 0, none⟩), .int .i64 size] w fun x w' => x = .returned (.int .u64 ((rFixed d e size).1 : Nat)) ∧ Fr1 p w w' ∧ ∃ A' c', RefV B0 w' p A' c' (rFixed d e size).2.1 (rFixed d e size).2.2 := by
  have c0 : w.cell? ⟨p, 0, none⟩ = some (.slice A d.length c) := h.blk.cell 0 rfl
  have c1 : w.cell? ⟨p, 1, none⟩ = some (.int .i64 e) := h.blk.cell 1 rfl
  have f0 : w.frozen? ⟨p, 0, none⟩ = false := h.blk.free 0
  have f1 : w.frozen? ⟨p, 1, none⟩ = false := h.blk.free 1
  have H := Lib.hid h
  by_cases he : e = 0
  · have b0 : (e != 0) = false := by simpa using he
    by_cases hbad : size < 1 ∨ 8 < size ∨ (d.length : Int) < size
    · have e1 : rFixed d e size = (0, d, 4) := by unfold rFixed fStep; rw [if_neg (by simpa using he), if_pos hbad, if_pos (by simp)]
      have E1 := Lib.hid e1
      by_cases k0 : size < 1
      · have q0 : decide (size < 1) = true := by simpa using k0
        clear k0 e1 he h hbad
        go_enter Try.func25, Try.ntmps25
        go_wp2_with fail
        go_ret
        rw [E1.out]
        exact ⟨rfl, (Fr1.refl p w).set 1 _, A, c, (H.out).err 4⟩
      · have q0 : decide (size < 1) = false := by simpa using k0
        by_cases k1 : 8 < size
        · have q1 : decide (8 < size) = true := by simpa using k1
          clear k0 k1 e1 he h hbad
          go_enter Try.func25, Try.ntmps25
          go_wp2_with fail
          go_ret
          rw [E1.out]
          exact ⟨rfl, (Fr1.refl p w).set 1 _, A, c, (H.out).err 4⟩
        · have q1 : decide (8 < size) = false := by simpa using k1
          have q2 : decide ((d.length : Int) < size) = true := by simp; omega
          clear k0 k1 e1 he h hbad
          go_enter Try.func25, Try.ntmps25
          go_wp2_with fail
          go_ret
          rw [E1.out]
          exact ⟨rfl, (Fr1.refl p w).set 1 _, A, c, (H.out).err 4⟩
    · obtain ⟨k, rfl⟩ : ∃ k : Nat, size = k := ⟨size.toNat, by omega⟩
      have e1 : rFixed d e (k : Int) = (fixVal (d.take k), d.drop k, 0) := by unfold rFixed fStep; rw [if_neg (by simpa using he), if_neg hbad, if_neg (by simp)]; rfl
      have E1 := Lib.hid e1
      have HE := Lib.hid he
      have q0 : decide ((k : Int) < 1) = false := by simp; omega
      have q1 : decide (8 < (k : Int)) = false := by simp; omega
      have q2 : decide ((d.length : Int) < (k : Int)) = false := by simp; omega
      have k8 : k ≤ 8 := by omega
      have kd : k ≤ d.length := by omega
      obtain ⟨A', hsl, hr2, hbk⟩ := slice_from (P := Try.prog) (T := 23) (e := 5) Try.underlying23 (fun _ => by kernel_rfl) (k := k) h.rd kd (k : Int) rfl
      have HR2 := Lib.hid hr2
      have HBK := Lib.hid hbk
      clear e1 he h hbad hr2 hbk hm
      go_enter Try.func25, Try.ntmps25
      go_wp2_with fail
      go_loopw [5, 6] (fun v5 v6 wr => wr = w ∧ ∃ (i n : Nat), v5 = .int .u64 (n : Int) ∧ v6 = .int .i64 (i : Int) ∧ i ≤ k ∧ n = fixVal (d.take i)) (fun _ v6 _ => k - (intOf v6).toNat)
      case atStart => exact ⟨rfl, 0, 0, rfl, rfl, by omega, by simp [fixVal]⟩
      case round =>
        obtain ⟨hww, i, n, rfl, rfl, hi, hr⟩ := hrel
        obtain rfl : w = wr := hww.symm
        by_cases hlt : i < k
        · have a1 : decide ((i : Int) < (k : Int)) = true := by simp; omega
          have hid : i < d.length := by omega
          obtain ⟨g, off, c', hv, hic, hg, hc⟩ := (H.out).rd.cell hid
          injection hv with hA _ hcc
          subst hA hcc
          have hn7 : n ≤ 72057594037927935 := by
            have := fixVal_lt (d.take i)
            rw [← hr, List.length_take] at this
            have h7 : min i d.length ≤ 7 := by omega
            have := Nat.pow_le_pow_right (show 0 < 256 by omega) h7
            omega
          have hr2 : n * 256 + (d[i]).toNat = fixVal (d.take (i + 1)) := by rw [hr, ← fixVal_snoc]; simp
          obtain ⟨y, hy⟩ : ∃ y, y = (d[i]).toNat := ⟨_, rfl⟩
          have hxl : y < 256 := by rw [hy]; exact (d[i]).toNat_lt
          rw [← hy] at hc hr2
          have Hr := Lib.hid hr2
          have ei : w.cell? ⟨g, off + i, none⟩ = some (.int .u8 (y : Int)) := hc
          have i0 : (i : Int) < (d.length : Int) := by omega
          have ew : IntKind.u64.wrap ((n : Int) * 256) = (n : Int) * 256 := by show (n : Int) * 256 % 18446744073709551616 = _; omega
          have ew2 : IntKind.u64.wrap (y : Int) = (y : Int) := by show (y : Int) % 18446744073709551616 = _; omega
          have ew3 : IntKind.u64.wrap ((n : Int) * 256 + (y : Int)) = (n : Int) * 256 + (y : Int) := by show ((n : Int) * 256 + (y : Int)) % 18446744073709551616 = _; omega
          clear hr hr2 hc hy
          go_wp2_with fail
          go_roundw
          case rel => exact ⟨trivial, i + 1, n * 256 + y, by go_num, by go_num, by omega, Hr.out⟩
          case measure => simp [intOf]; omega
        · have a1 : decide ((i : Int) < (k : Int)) = false := by simp; omega
          have e : i = k := by omega
          subst e
          have Hr := Lib.hid hr
          clear hr
          go_wp2_with fail
          go_ret
          rw [E1.out, Hr.out]
          have := (H.out).cut HR2.out HBK.out
          rw [HE.out] at this
          exact ⟨rfl, (Fr1.refl p w).set 0 _, A', _, this⟩
  · have b0 : (e != 0) = true := by simpa using he
    have e1 : rFixed d e size = (0, d, e) := by unfold rFixed; rw [if_pos he]
    have E1 := Lib.hid e1
    clear e1 he h
    go_enter Try.func25, Try.ntmps25
    go_wp2_with fail
    go_ret
    rw [E1.out]
    exact ⟨rfl, Fr1.refl _ _, A, c, H.out⟩

set_option maxHeartbeats 400000 in
theorem frest_any {B0 p : Nat} {A : Option Addr} {c : Nat} {d : List UInt8} {e : Int} {w : World} (h : RefV B0 w p A c d e) :
    Calls Try.prog 28 #[.pointer (some ⟨p, 0, none⟩)] w fun x w' => ∃ A2 c2, x = .returned (.slice A2 (rRest d e).1.length c2) ∧ RdB w' (.slice A2 (rRest d e).1.length c2) (rRest d e).1 ∧ Fr1 p w w' ∧ ∃ A' c', RefV B0 w' p A' c' (rRest d e).2.1 (rRest d e).2.2 := by
  have c0 : w.cell? ⟨p, 0, none⟩ = some (.slice A d.length c) := h.blk.cell 0 rfl
  have c1 : w.cell? ⟨p, 1, none⟩ = some (.int .i64 e) := h.blk.cell 1 rfl
  have f0 : w.frozen? ⟨p, 0, none⟩ = false := h.blk.free 0
  have H := Lib.hid h
  by_cases he : e = 0
  · have b0 : (e != 0) = false := by simpa using he
    have e1 : rRest d e = (d, [], 0) := by unfold rRest; rw [if_neg (by simpa using he)]
    have E1 := Lib.hid e1
    have HE := Lib.hid he
    clear e1 he h
    go_enter Try.func28, Try.ntmps28
    go_wp2_with fail
    go_ret
    rw [E1.out]
    have hb := (H.out).blk.set 0 (.slice none 0 0)
    rw [HE.out] at hb
    exact ⟨_, _, rfl, RdB.fr1 (H.out).rd ((Fr1.refl p w).set 0 _) (H.out).ne, (Fr1.refl p w).set 0 _, none, 0, hb, RdB.nil _, fun h => by simp at h, (H.out).ge⟩
  · have b0 : (e != 0) = true := by simpa using he
    have e1 : rRest d e = ([], d, e) := by unfold rRest; rw [if_pos he]
    have E1 := Lib.hid e1
    clear e1 he h
    go_enter Try.func28, Try.ntmps28
    go_wp2_with fail
    go_ret
    rw [E1.out]
    exact ⟨none, 0, rfl, RdB.nil _, Fr1.refl _ _, A, c, H.out⟩

set_option maxHeartbeats 400000 in
theorem fend_any {B0 p : Nat} {A : Option Addr} {c : Nat} {d : List UInt8} {e : Int} {w : World} (h : RefV B0 w p A c d e) :
    Calls Try.prog 30 #[.pointer (some ⟨p, 0, none⟩)] w fun x w' => x = .returned (.int .i64 (rEnd d e)) ∧ w' = w := by
  have c0 : w.cell? ⟨p, 0, none⟩ = some (.slice A d.length c) := h.blk.cell 0 rfl
  have c1 : w.cell? ⟨p, 1, none⟩ = some (.int .i64 e) := h.blk.cell 1 rfl
  clear h
  by_cases he : e = 0
  · have b0 : (e == 0) = true := by simpa using he
    by_cases hl : 0 < d.length
    · have hS := Lib.hid (show rEnd d e = 4 by unfold rEnd; rw [if_pos ⟨he, hl⟩])
      have b1 : decide (0 < (d.length : Int)) = true := by simp; omega
      have b2 : decide (0 < d.length) = true := by simpa using hl
      clear he hl
      go_enter Try.func30, Try.ntmps30
      go_wp2_with fail
      go_ret
      rw [hS.out]
      exact ⟨rfl, rfl⟩
    · have hS := Lib.hid (show rEnd d e = e by unfold rEnd; exact if_neg (fun h => hl h.2))
      have b1 : decide (0 < (d.length : Int)) = false := by simpa using hl
      have b2 : decide (0 < d.length) = false := by simpa using hl
      clear he hl
      go_enter Try.func30, Try.ntmps30
      go_wp2_with fail
      go_ret
      rw [hS.out]
      exact ⟨rfl, rfl⟩
  · have b0 : (e == 0) = false := by simpa using he
    have hS := Lib.hid (show rEnd d e = e by unfold rEnd; exact if_neg (fun h => he h.1))
    clear he
    go_enter Try.func30, Try.ntmps30
    go_wp2_with fail
    go_ret
    rw [hS.out]
    exact ⟨rfl, rfl⟩
end Go.Proofs.Ythgmimeheeajgaa
