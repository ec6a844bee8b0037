/- The reference's reader, its Num. Conditions stand in the statements. -/
import Derived.Test.YtcbllkkbpjobpaaWireRefForm
import Derived.Test.YtcbllkkbpjobpaaWApp
namespace Go.Proofs.Ytcbllkkbpjobpaa
open Go.RowKit

/-- The reference's reader, its slice named. -/
structure RefV (B0 : Nat) (w : World) (p : Nat) (A : Option Addr) (c : Nat) (d : List UInt8) (e : Int) : Prop where
  blk : Blk w p #[.slice A d.length c, .int .i64 e] 76
  rd : RdB w (.slice A d.length c) d
  lt : 0 < d.length → ∀ g, Value.blk (.slice A d.length c) = some g → g < B0
  ge : B0 ≤ p
section
variable {w w' : World} {B0 p : Nat} {A : Option Addr} {c : Nat} {d : List UInt8} {e : Int}
theorem RefV.ne (h : RefV B0 w p A c d e) : 0 < d.length → Value.blk (.slice A d.length c) ≠ some p := fun h0 hp => by have := h.lt h0 p hp; have := h.ge; omega
theorem RefV.fr0 (h : RefV B0 w p A c d e) (hf : Fr0 w w') : RefV B0 w' p A c d e := ⟨h.blk.fr0 hf, h.rd.fr0 hf, h.lt, h.ge⟩
theorem RefV.fr1 (h : RefV B0 w p A c d e) {q : Nat} (hf : Fr1 q w w') (hq : B0 ≤ q) (hpq : p ≠ q) : RefV B0 w' p A c d e :=
  ⟨h.blk.fr1 hf hpq, RdB.fr1 h.rd hf (fun h0 hp => by have := h.lt h0 q hp; omega), h.lt, h.ge⟩
theorem RefV.err (h : RefV B0 w p A c d e) (e' : Int) : RefV B0 (w.setCell ⟨p, 1, none⟩ (.int .i64 e')) p A c d e' :=
  ⟨h.blk.set 1 _, RdB.fr1 h.rd ((Fr1.refl p w).set 1 _) h.ne, h.lt, h.ge⟩
theorem RefV.cut (h : RefV B0 w p A c d e) {k : Nat} {A' : Option Addr} (hr : RdB w (.slice A' (d.length - k) (c - k)) (d.drop k)) (hb : ∀ g, Value.blk (.slice A' (d.length - k) (c - k)) = some g → Value.blk (.slice A d.length c) = some g) :
    RefV B0 (w.setCell ⟨p, 0, none⟩ (.slice A' (d.length - k) (c - k))) p A' (c - k) (d.drop k) e := by
  have hl : (d.drop k).length = d.length - k := List.length_drop
  have hne : 0 < (d.drop k).length → Value.blk (.slice A' (d.length - k) (c - k)) ≠ some p := fun h0 hp => h.ne (by omega) (hb p hp)
  refine ⟨?_, ?_, ?_, h.ge⟩
  · rw [hl]; exact h.blk.set 0 _
  · rw [hl]; exact RdB.fr1 hr ((Fr1.refl p w).set 0 _) hne
  · rw [hl]; intro h0 g hg; exact h.lt (by omega) g (hb g hg)
end

set_option maxHeartbeats 1000000 in
theorem fnum_any {B0 p : Nat} {A : Option Addr} {c : Nat} {d : List UInt8} {e : Int} {w : World} (h : RefV B0 w p A c d e) (hn : d.length ≤ 100000000) :
    Calls Try.prog 53 #[.pointer (some ⟨p, 0, none⟩)] w fun x w' => x = .returned (.int .u64 ((rNum d e).1 : Nat)) ∧ Fr1 p w w' ∧ ∃ A' c', RefV B0 w' p A' c' (rNum d e).2.1 (rNum d e).2.2 := by
  have c0 : w.cell? ⟨p, 0, none⟩ = some (.slice A d.length c) := h.blk.cell 0 rfl
  have c1 : w.cell? ⟨p, 1, none⟩ = some (.int .i64 e) := h.blk.cell 1 rfl
  have H := Lib.hid h
  by_cases he : e = 0
  · have b0 : (e != 0) = false := by simpa using he
    have HF := Lib.hid (refForm_any h.rd hn)
    obtain ⟨hk1, hk2⟩ := rdNum_lt d 0 0
    rw [show rdNum d 0 0 = rd d from rfl] at hk1 hk2
    by_cases hk : (rd d).2 = 0
    · have e1 : rNum d e = (0, d, 4) := by unfold rNum; rw [if_neg (by simpa using he), if_pos hk]
      have E1 := Lib.hid e1
      obtain ⟨N, hN⟩ : ∃ N, N = rd d := ⟨_, rfl⟩
      rw [← hN] at HF hk hk1 hk2
      have b1 : ((N.2 : Int) == 0) = true := by simp; omega
      clear e1 he h hk hN
      go_enter Try.func53, Try.ntmps53
      go_wp2_with (go_at_call 57; refine (HF.out).mono ?_; rintro x w2 ⟨rfl, hf⟩; have F := Lib.hid hf; have f1 : w2.frozen? ⟨p, 1, none⟩ = false := ((H.out).blk.fr0 hf).free 1; have d1 : w2.cell? ⟨p, 1, none⟩ = some (.int .i64 e) := ((H.out).blk.fr0 hf).cell 1 rfl; clear hf)
      go_ret
      rw [E1.out]
      exact ⟨rfl, (Fr1.of0 F.out).set 1 _, A, c, ((H.out).fr0 F.out).err 4⟩
    · have e1 : rNum d e = ((rd d).1, d.drop (rd d).2, 0) := by unfold rNum; rw [if_neg (by simpa using he), if_neg hk]
      have E1 := Lib.hid e1
      have HE := Lib.hid he
      obtain ⟨A', hsl, hr2, hbk⟩ := slice_from (P := Try.prog) (T := 26) (e := 5) Try.underlying26 (fun _ => by kernel_rfl) (k := (rd d).2) h.rd (by omega) ((rd d).2 : Int) rfl
      have HR2 := Lib.hid hr2
      have HBK := Lib.hid hbk
      obtain ⟨N, hN⟩ : ∃ N, N = rd d := ⟨_, rfl⟩
      rw [← hN] at HF hk hk1 hk2 hsl HR2 HBK E1
      have b1 : ((N.2 : Int) == 0) = false := by simp; omega
      clear e1 he h hk hN hr2 hbk
      go_enter Try.func53, Try.ntmps53
      go_wp2_with (go_at_call 57; refine (HF.out).mono ?_; rintro x w2 ⟨rfl, hf⟩; have F := Lib.hid hf; have f1 : w2.frozen? ⟨p, 0, none⟩ = false := ((H.out).blk.fr0 hf).free 0; have d1 : w2.cell? ⟨p, 0, none⟩ = some (.slice A d.length c) := ((H.out).blk.fr0 hf).cell 0 rfl; clear hf)
      go_ret
      rw [E1.out]
      have := ((H.out).fr0 F.out).cut (RdB.fr0 HR2.out F.out) HBK.out
      rw [HE.out] at this
      exact ⟨rfl, (Fr1.of0 F.out).set 0 _, A', _, this⟩
  · have b0 : (e != 0) = true := by simpa using he
    have e1 : rNum d e = (0, d, e) := by unfold rNum; rw [if_pos he]
    have E1 := Lib.hid e1
    clear e1 he h
    go_enter Try.func53, Try.ntmps53
    go_wp2_with fail
    go_ret
    rw [E1.out]
    exact ⟨rfl, Fr1.refl _ _, A, c, H.out⟩
end Go.Proofs.Ytcbllkkbpjobpaa
