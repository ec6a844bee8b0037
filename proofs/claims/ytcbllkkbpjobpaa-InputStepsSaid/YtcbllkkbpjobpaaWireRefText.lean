/- The reference's reader: Text. Conditions stand in the statements. -/
import Derived.Test.YtcbllkkbpjobpaaWireRefV
import Derived.Test.YtcbllkkbpjobpaaWireRText2
namespace Go.Proofs.Ytcbllkkbpjobpaa
open Go.RowKit

/-- 'd[k:h]', its value under a name. -/
theorem slice_mid {P : Program} {T e : TypeId} (ht : P.underlying T = some (.slice e)) (hs : ∀ w, (sizeOf e).run P w = .ok 1 w) {w : World} {A : Option Addr} {c : Nat} {d : List UInt8} {k h : Nat} (hr : RdB w (.slice A d.length c) d) (hk : k ≤ h) (hh : h ≤ d.length) (i j : Int) (hiW : i = k) (hj : j = h) :
    ∃ A', (∀ w', (Instr.slice T (.slice A d.length c) (some (.int .i64 i)) (some (.int .i64 j)) none).run P w' = .ok (.slice A' (h - k) (c - k)) w') ∧ RdB w (.slice A' (h - k) (c - k)) ((d.take h).drop k) := by
  have hel : P.elem T = e := by simp [Program.elem, ht]
  have hcap : d.length ≤ c := by obtain ⟨A', c', hv, h1, _⟩ := hr.form; injection hv with _ _ hc; omega
  subst hiW hj
  refine ⟨if c = k then A else A.map (·.add k), fun w' => ?_, ?_⟩
  · rw [run_slice_lh (w := w') T A d.length c (by rw [hel]; exact ht) .i64 .i64 (k : Int) (h : Int) (by omega) (by omega) (by omega), hel, hs w']
    simp [Result.andThen, sliced]
  · have h1 : RdB w (.slice A (d.take h).length c) (d.take h) := by
      have := RdB.take hr hh
      rw [List.length_take, Nat.min_eq_left hh]; exact this
    have h2 := h1.drop (k := k) (by rw [List.length_take]; omega)
    rw [List.length_take, Nat.min_eq_left hh] at h2
    exact h2

set_option maxHeartbeats 4000000 in
theorem ftext_any {B0 p : Nat} {A : Option Addr} {c : Nat} {d : List UInt8} {e : Int} {most : Int} {w : World} (h : RefV B0 w p A c d e) (hn : d.length ≤ 10000000) (hm : -9223372036854775808 ≤ most ∧ most ≤ 9223372036854775807) :
    Calls Try.prog 54 #[.pointer (some ⟨p, 0, none⟩), .int .i64 most] w fun x w' => ∃ v, x = .returned v ∧ w'.ownsRow w.heap.size 5 1 v (rText d e most).1.length (byts (rText d e most).1) ∧ Fr1 p w w' ∧ ∃ A' c', RefV B0 w' p A' c' (rText d e most).2.1 (rText d e most).2.2 := by
  have c0 : w.cell? ⟨p, 0, none⟩ = some (.slice A d.length c) := h.blk.cell 0 rfl
  have c1 : w.cell? ⟨p, 1, none⟩ = some (.int .i64 e) := h.blk.cell 1 rfl
  have H := Lib.hid h
  by_cases he : e = 0
  · have b0 : (e != 0) = false := by simpa using he
    have HE := Lib.hid he
    have HF := Lib.hid (refForm_any h.rd (by omega))
    obtain ⟨hk1, hk2⟩ := rdNum_lt d 0 0
    rw [show rdNum d 0 0 = rd d from rfl] at hk1 hk2
    simp only [Nat.add_zero] at hk1
    have hT : rText d e most = if (tStep d most).2.1 ≠ 0 then ([], d, (tStep d most).2.1) else ((d.take (tStep d most).1).drop (tStep d most).2.2, d.drop (tStep d most).1, 0) := by unfold rText; rw [if_neg (by simpa using he)]
    have hS : tStep d most = if (rd d).2 = 0 then (0, 4, 0) else if max most 0 < ((rd d).1 : Int) then (0, 3, 0) else if d.length - (rd d).2 < (rd d).1 then (0, 4, 0) else ((rd d).2 + (rd d).1, 0, (rd d).2) := rfl
    obtain ⟨n, hN1⟩ : ∃ n, n = (rd d).1 := ⟨_, rfl⟩
    obtain ⟨k, hN2⟩ : ∃ k, k = (rd d).2 := ⟨_, rfl⟩
    rw [← hN1, ← hN2] at HF hS
    rw [← hN2] at hk1
    rw [← hN1] at hk2
    have hrd := h.rd
    clear hN1 hN2 he h
    by_cases hneg : most < 0
    · have s0 : decide (most < 0) = true := by simpa using hneg
      have hmx : max most 0 = 0 := by omega
      have w0 : IntKind.u64.wrap (0 : Int) = 0 := rfl
      rw [hmx] at hS
      by_cases k0 : k = 0
      · rw [if_pos k0] at hS
        rw [hS, if_pos (by simp)] at hT
        have E1 := Lib.hid hT
        have b1 : ((k : Int) == 0) = true := by simp; omega
        clear hS hT k0 hneg hmx hrd
        go_enter Try.func54, Try.ntmps54
        go_wp2_with (go_at_call 57; refine (HF.out).mono ?_; rintro x w2 ⟨rfl, hf⟩; have F := Lib.hid hf; have f1 : w2.frozen? ⟨p, 1, none⟩ = false := ((H.out).blk.fr0 hf).free 1; have d1 : w2.cell? ⟨p, 1, none⟩ = some (.int .i64 e) := ((H.out).blk.fr0 hf).cell 1 rfl; have f0 : w2.frozen? ⟨p, 0, none⟩ = false := ((H.out).blk.fr0 hf).free 0; have d0 : w2.cell? ⟨p, 0, none⟩ = some (.slice A d.length c) := ((H.out).blk.fr0 hf).cell 0 rfl; clear hf)
        go_ret
        rw [E1.out]
        exact ⟨_, rfl, World.ownsRow_nil _ _ _ _, (Fr1.of0 F.out).set 1 _, A, c, ((H.out).fr0 F.out).err _⟩
      · rw [if_neg k0] at hS
        have b1 : ((k : Int) == 0) = false := by simp; omega
        by_cases k1 : (0 : Int) < (n : Int)
        · rw [if_pos k1] at hS
          rw [hS, if_pos (by simp)] at hT
          have E1 := Lib.hid hT
          have b2 : decide ((0 : Int) < (n : Int)) = true := by simpa using k1
          have b3 : decide (0 < n) = true := by have := k1; simp; omega
          clear hS hT k0 hneg hmx hrd k1
          go_enter Try.func54, Try.ntmps54
          go_wp2_with (go_at_call 57; refine (HF.out).mono ?_; rintro x w2 ⟨rfl, hf⟩; have F := Lib.hid hf; have f1 : w2.frozen? ⟨p, 1, none⟩ = false := ((H.out).blk.fr0 hf).free 1; have d1 : w2.cell? ⟨p, 1, none⟩ = some (.int .i64 e) := ((H.out).blk.fr0 hf).cell 1 rfl; have f0 : w2.frozen? ⟨p, 0, none⟩ = false := ((H.out).blk.fr0 hf).free 0; have d0 : w2.cell? ⟨p, 0, none⟩ = some (.slice A d.length c) := ((H.out).blk.fr0 hf).cell 0 rfl; clear hf)
          go_ret
          rw [E1.out]
          exact ⟨_, rfl, World.ownsRow_nil _ _ _ _, (Fr1.of0 F.out).set 1 _, A, c, ((H.out).fr0 F.out).err _⟩
        · rw [if_neg k1] at hS
          have b2 : decide ((0 : Int) < (n : Int)) = false := by simpa using k1
          have b3 : decide (0 < n) = false := by simp; omega
          have y1 : IntKind.i64.wrap ((d.length : Int) - (k : Int)) = (d.length : Int) - (k : Int) := IntWalk.i64_in _ (by omega)
          have y2 : IntKind.u64.wrap ((d.length : Int) - (k : Int)) = (d.length : Int) - (k : Int) := by show ((d.length : Int) - (k : Int)) % 18446744073709551616 = _; omega
          by_cases k2 : d.length - k < n
          · rw [if_pos k2] at hS
            rw [hS, if_pos (by simp)] at hT
            have E1 := Lib.hid hT
            have b4 : decide ((d.length : Int) - (k : Int) < (n : Int)) = true := by simp; omega
            clear hS hT k0 hneg hmx hrd k1 k2
            go_enter Try.func54, Try.ntmps54
            go_wp2_with (go_at_call 57; refine (HF.out).mono ?_; rintro x w2 ⟨rfl, hf⟩; have F := Lib.hid hf; have f1 : w2.frozen? ⟨p, 1, none⟩ = false := ((H.out).blk.fr0 hf).free 1; have d1 : w2.cell? ⟨p, 1, none⟩ = some (.int .i64 e) := ((H.out).blk.fr0 hf).cell 1 rfl; have f0 : w2.frozen? ⟨p, 0, none⟩ = false := ((H.out).blk.fr0 hf).free 0; have d0 : w2.cell? ⟨p, 0, none⟩ = some (.slice A d.length c) := ((H.out).blk.fr0 hf).cell 0 rfl; clear hf)
            go_ret
            rw [E1.out]
            exact ⟨_, rfl, World.ownsRow_nil _ _ _ _, (Fr1.of0 F.out).set 1 _, A, c, ((H.out).fr0 F.out).err _⟩
          · rw [if_neg k2] at hS
            rw [hS, if_neg (by simp)] at hT
            have E1 := Lib.hid hT
            have b4 : decide ((d.length : Int) - (k : Int) < (n : Int)) = false := by simp; omega
            have y3 : IntKind.i64.wrap (n : Int) = (n : Int) := IntWalk.i64_in _ (by omega)
            have y4 : IntKind.i64.wrap ((k : Int) + (n : Int)) = (k : Int) + (n : Int) := IntWalk.i64_in _ (by omega)
            obtain ⟨A', hsl, hr2, hbk⟩ := slice_from (P := Try.prog) (T := 26) (e := 5) Try.underlying26 (fun _ => by kernel_rfl) (k := k + n) hrd (by omega) ((k : Int) + (n : Int)) (by omega)
            obtain ⟨Am, hsm, hrm⟩ := slice_mid (P := Try.prog) (T := 26) (e := 5) Try.underlying26 (fun _ => by kernel_rfl) (k := k) (h := k + n) hrd (by omega) (by omega) (k : Int) ((k : Int) + (n : Int)) rfl (by omega)
            have hkk : k + n - k = n := by omega
            have hn2 : n ≤ 10000000 := by omega
            rw [hkk] at hsm hrm
            clear hkk
            have hrm2 : Rd w 1 (.slice Am n (c - k)) n (byts ((d.take (k + n)).drop k)) := by
              have := hrm
              unfold RdB at this
              rwa [show ((d.take (k + n)).drop k).length = n by rw [List.length_drop, List.length_take]; omega] at this
            have HR2 := Lib.hid hr2
            have HBK := Lib.hid hbk
            have HM := Lib.hid hrm2
            have kn2 := Lib.hid (show k + n ≤ d.length by omega)
            clear hS hT k0 hneg hmx hrd k1 k2 hr2 hbk hrm hrm2
            go_enter Try.func54, Try.ntmps54
            go_wp2_with (first
              | (go_at_call 57; refine (HF.out).mono ?_; rintro x w2 ⟨rfl, hf⟩; have F := Lib.hid hf; have f1 : w2.frozen? ⟨p, 1, none⟩ = false := ((H.out).blk.fr0 hf).free 1; have d1 : w2.cell? ⟨p, 1, none⟩ = some (.int .i64 e) := ((H.out).blk.fr0 hf).cell 1 rfl; have f0 : w2.frozen? ⟨p, 0, none⟩ = false := ((H.out).blk.fr0 hf).free 0; have d0 : w2.cell? ⟨p, 0, none⟩ = some (.slice A d.length c) := ((H.out).blk.fr0 hf).cell 0 rfl; have d9 : (w2.alloc (.cells #[] 5)).cell? ⟨p, 0, none⟩ = some (.slice A d.length c) := (((H.out).blk.fr0 hf).alloc _).cell 0 rfl; clear hf)
              | (at_builtin; refine app_bytes rfl _ _ rfl (L1 := []) ((F.out).alloc _) (own_empty (heap_alloc_new _ _) (F.out).size) (by rfl) (Rd.fr0 HM.out ((F.out).alloc _)) (by rfl) (by omega) ?_; intro Ak ck w3 hown hf; rw [Nat.zero_add, List.nil_append] at hown; have O := Lib.hid hown; have F3 := Lib.hid hf; have f3 : w3.frozen? ⟨p, 0, none⟩ = false := ((H.out).blk.fr0 hf).free 0; have d3 : w3.cell? ⟨p, 0, none⟩ = some (.slice A d.length c) := ((H.out).blk.fr0 hf).cell 0 rfl; clear hown hf))
            go_ret
            rw [E1.out]
            have hcut := ((H.out).fr0 F3.out).cut (RdB.fr0 HR2.out F3.out) HBK.out
            rw [HE.out] at hcut
            have hlen : ((d.take (k + n)).drop k).length = n := by have := kn2.out; rw [List.length_drop, List.length_take]; omega
            refine ⟨_, rfl, ?_, (Fr1.of0 F3.out).set 0 _, A', _, hcut⟩
            rw [hlen]
            exact own_fr (O.out) ((Fr1.refl p w3).set 0 _) (fun g hg e => own_ne (O.out) ((H.out).blk.fr0 F3.out) (by decide) g hg e)
    · have s0 : decide (most < 0) = false := by simpa using hneg
      have hmx : max most 0 = most := by omega
      have w0 : IntKind.u64.wrap most = most := by show most % 18446744073709551616 = _; omega
      rw [hmx] at hS
      by_cases k0 : k = 0
      · rw [if_pos k0] at hS
        rw [hS, if_pos (by simp)] at hT
        have E1 := Lib.hid hT
        have b1 : ((k : Int) == 0) = true := by simp; omega
        clear hS hT k0 hneg hmx hrd
        go_enter Try.func54, Try.ntmps54
        go_wp2_with (go_at_call 57; refine (HF.out).mono ?_; rintro x w2 ⟨rfl, hf⟩; have F := Lib.hid hf; have f1 : w2.frozen? ⟨p, 1, none⟩ = false := ((H.out).blk.fr0 hf).free 1; have d1 : w2.cell? ⟨p, 1, none⟩ = some (.int .i64 e) := ((H.out).blk.fr0 hf).cell 1 rfl; have f0 : w2.frozen? ⟨p, 0, none⟩ = false := ((H.out).blk.fr0 hf).free 0; have d0 : w2.cell? ⟨p, 0, none⟩ = some (.slice A d.length c) := ((H.out).blk.fr0 hf).cell 0 rfl; clear hf)
        go_ret
        rw [E1.out]
        exact ⟨_, rfl, World.ownsRow_nil _ _ _ _, (Fr1.of0 F.out).set 1 _, A, c, ((H.out).fr0 F.out).err _⟩
      · rw [if_neg k0] at hS
        have b1 : ((k : Int) == 0) = false := by simp; omega
        by_cases k1 : most < (n : Int)
        · rw [if_pos k1] at hS
          rw [hS, if_pos (by simp)] at hT
          have E1 := Lib.hid hT
          have b2 : decide (most < (n : Int)) = true := by simpa using k1
          have b3 : decide (0 < n) = true := by have := k1; simp; omega
          clear hS hT k0 hneg hmx hrd k1
          go_enter Try.func54, Try.ntmps54
          go_wp2_with (go_at_call 57; refine (HF.out).mono ?_; rintro x w2 ⟨rfl, hf⟩; have F := Lib.hid hf; have f1 : w2.frozen? ⟨p, 1, none⟩ = false := ((H.out).blk.fr0 hf).free 1; have d1 : w2.cell? ⟨p, 1, none⟩ = some (.int .i64 e) := ((H.out).blk.fr0 hf).cell 1 rfl; have f0 : w2.frozen? ⟨p, 0, none⟩ = false := ((H.out).blk.fr0 hf).free 0; have d0 : w2.cell? ⟨p, 0, none⟩ = some (.slice A d.length c) := ((H.out).blk.fr0 hf).cell 0 rfl; clear hf)
          go_ret
          rw [E1.out]
          exact ⟨_, rfl, World.ownsRow_nil _ _ _ _, (Fr1.of0 F.out).set 1 _, A, c, ((H.out).fr0 F.out).err _⟩
        · rw [if_neg k1] at hS
          have b2 : decide (most < (n : Int)) = false := by simpa using k1
          have y1 : IntKind.i64.wrap ((d.length : Int) - (k : Int)) = (d.length : Int) - (k : Int) := IntWalk.i64_in _ (by omega)
          have y2 : IntKind.u64.wrap ((d.length : Int) - (k : Int)) = (d.length : Int) - (k : Int) := by show ((d.length : Int) - (k : Int)) % 18446744073709551616 = _; omega
          by_cases k2 : d.length - k < n
          · rw [if_pos k2] at hS
            rw [hS, if_pos (by simp)] at hT
            have E1 := Lib.hid hT
            have b4 : decide ((d.length : Int) - (k : Int) < (n : Int)) = true := by simp; omega
            clear hS hT k0 hneg hmx hrd k1 k2
            go_enter Try.func54, Try.ntmps54
            go_wp2_with (go_at_call 57; refine (HF.out).mono ?_; rintro x w2 ⟨rfl, hf⟩; have F := Lib.hid hf; have f1 : w2.frozen? ⟨p, 1, none⟩ = false := ((H.out).blk.fr0 hf).free 1; have d1 : w2.cell? ⟨p, 1, none⟩ = some (.int .i64 e) := ((H.out).blk.fr0 hf).cell 1 rfl; have f0 : w2.frozen? ⟨p, 0, none⟩ = false := ((H.out).blk.fr0 hf).free 0; have d0 : w2.cell? ⟨p, 0, none⟩ = some (.slice A d.length c) := ((H.out).blk.fr0 hf).cell 0 rfl; clear hf)
            go_ret
            rw [E1.out]
            exact ⟨_, rfl, World.ownsRow_nil _ _ _ _, (Fr1.of0 F.out).set 1 _, A, c, ((H.out).fr0 F.out).err _⟩
          · rw [if_neg k2] at hS
            rw [hS, if_neg (by simp)] at hT
            have E1 := Lib.hid hT
            have b4 : decide ((d.length : Int) - (k : Int) < (n : Int)) = false := by simp; omega
            have y3 : IntKind.i64.wrap (n : Int) = (n : Int) := IntWalk.i64_in _ (by omega)
            have y4 : IntKind.i64.wrap ((k : Int) + (n : Int)) = (k : Int) + (n : Int) := IntWalk.i64_in _ (by omega)
            obtain ⟨A', hsl, hr2, hbk⟩ := slice_from (P := Try.prog) (T := 26) (e := 5) Try.underlying26 (fun _ => by kernel_rfl) (k := k + n) hrd (by omega) ((k : Int) + (n : Int)) (by omega)
            obtain ⟨Am, hsm, hrm⟩ := slice_mid (P := Try.prog) (T := 26) (e := 5) Try.underlying26 (fun _ => by kernel_rfl) (k := k) (h := k + n) hrd (by omega) (by omega) (k : Int) ((k : Int) + (n : Int)) rfl (by omega)
            have hkk : k + n - k = n := by omega
            have hn2 : n ≤ 10000000 := by omega
            rw [hkk] at hsm hrm
            clear hkk
            have hrm2 : Rd w 1 (.slice Am n (c - k)) n (byts ((d.take (k + n)).drop k)) := by
              have := hrm
              unfold RdB at this
              rwa [show ((d.take (k + n)).drop k).length = n by rw [List.length_drop, List.length_take]; omega] at this
            have HR2 := Lib.hid hr2
            have HBK := Lib.hid hbk
            have HM := Lib.hid hrm2
            have kn2 := Lib.hid (show k + n ≤ d.length by omega)
            clear hS hT k0 hneg hmx hrd k1 k2 hr2 hbk hrm hrm2
            go_enter Try.func54, Try.ntmps54
            go_wp2_with (first
              | (go_at_call 57; refine (HF.out).mono ?_; rintro x w2 ⟨rfl, hf⟩; have F := Lib.hid hf; have f1 : w2.frozen? ⟨p, 1, none⟩ = false := ((H.out).blk.fr0 hf).free 1; have d1 : w2.cell? ⟨p, 1, none⟩ = some (.int .i64 e) := ((H.out).blk.fr0 hf).cell 1 rfl; have f0 : w2.frozen? ⟨p, 0, none⟩ = false := ((H.out).blk.fr0 hf).free 0; have d0 : w2.cell? ⟨p, 0, none⟩ = some (.slice A d.length c) := ((H.out).blk.fr0 hf).cell 0 rfl; have d9 : (w2.alloc (.cells #[] 5)).cell? ⟨p, 0, none⟩ = some (.slice A d.length c) := (((H.out).blk.fr0 hf).alloc _).cell 0 rfl; clear hf)
              | (at_builtin; refine app_bytes rfl _ _ rfl (L1 := []) ((F.out).alloc _) (own_empty (heap_alloc_new _ _) (F.out).size) (by rfl) (Rd.fr0 HM.out ((F.out).alloc _)) (by rfl) (by omega) ?_; intro Ak ck w3 hown hf; rw [Nat.zero_add, List.nil_append] at hown; have O := Lib.hid hown; have F3 := Lib.hid hf; have f3 : w3.frozen? ⟨p, 0, none⟩ = false := ((H.out).blk.fr0 hf).free 0; have d3 : w3.cell? ⟨p, 0, none⟩ = some (.slice A d.length c) := ((H.out).blk.fr0 hf).cell 0 rfl; clear hown hf))
            go_ret
            rw [E1.out]
            have hcut := ((H.out).fr0 F3.out).cut (RdB.fr0 HR2.out F3.out) HBK.out
            rw [HE.out] at hcut
            have hlen : ((d.take (k + n)).drop k).length = n := by have := kn2.out; rw [List.length_drop, List.length_take]; omega
            refine ⟨_, rfl, ?_, (Fr1.of0 F3.out).set 0 _, A', _, hcut⟩
            rw [hlen]
            exact own_fr (O.out) ((Fr1.refl p w3).set 0 _) (fun g hg e => own_ne (O.out) ((H.out).blk.fr0 F3.out) (by decide) g hg e)
  · have b0 : (e != 0) = true := by simpa using he
    have e1 : rText d e most = ([], d, e) := by unfold rText; rw [if_pos he]
    have E1 := Lib.hid e1
    clear e1 he h
    go_enter Try.func54, Try.ntmps54
    go_wp2_with fail
    go_ret
    rw [E1.out]
    exact ⟨_, rfl, World.ownsRow_nil _ _ _ _, Fr1.refl _ _, A, c, H.out⟩
end Go.Proofs.Ytcbllkkbpjobpaa
