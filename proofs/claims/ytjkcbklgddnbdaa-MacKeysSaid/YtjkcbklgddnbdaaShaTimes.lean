/- The reference's times walked. Conditions stand in the statements. -/
import Derived.Test.YtjkcbklgddnbdaaShaDig
import Derived.Laws.MakeOwn
import Derived.Laws.OwnMore
import Derived.Deep.QuietTactic
import Derived.BigQuiet
set_option linter.unusedSimpArgs false
namespace Go.Proofs.Ytjkcbklgddnbdaa
open Go.RowKit

theorem list_make_u {ops : Array Oper} {rest : List Oper} {o : Oper} {a : Act} {w : World} {Q : Exit → Act → World → Prop} (hgd : o.guard = none) (x y : Operand) (ho : o.op = .makeSlice 71 x y) (n : Nat) (hx : a.eval x = .int .i64 (n : Int)) (hy : a.eval y = .int .i64 (n : Int)) (hn : n ≤ 1000)
    (h : ∀ g W1, Blk W1 g (ucells (List.replicate n 0)).toArray 46 → Fr0 w W1 → w.heap.size ≤ g → wpList Try.prog ops Q rest (a.put o.dst (.slice (some ⟨g, 0, none⟩) n n)) W1) : wpList Try.prog ops Q (o :: rest) a w := by
  obtain ⟨i, hi, hz0, hz1, hz2⟩ := info_parts infoU64
  have hr := run_make (P := Try.prog) w 71 46 i _ Try.underlying71 hi hz0 .i64 .i64 (n : Int) (n : Int) (by omega) (Int.le_refl _) (by rw [hz2]; omega) (by omega)
  rw [Int.toNat_natCast, hz1, Nat.mul_one] at hr
  refine wpList_plain hgd fun K hK => ?_
  unfold Oper.wp execOp
  simp only [ho, hx, hy, Sem.run_bind, hr, Result.andThen_ok]
  refine hK _ _ (h w.heap.size _ ?_ ((Fr0.refl w).alloc _) (Nat.le_refl _))
  have hb := Blk.new w (madeCells (Value.int .u64 0).cells n) 46
  rw [show (madeCells (Value.int .u64 0).cells n) = (ucells (List.replicate n 0)).toArray from by
    apply Array.toList_inj.1
    rw [show (Value.int .u64 0).cells = #[Value.int .u64 0] from rfl, toList_madeCells_one]
    simp [ucells]] at hb ⊢
  exact hb
theorem ucells_set (l : List Nat) (i x : Nat) : (ucells l).toArray.setIfInBounds i (.int .u64 (x : Int)) = (ucells (l.set i x)).toArray := by
  rw [List.setIfInBounds_toArray, ucells, ucells, List.map_set]
set_option maxHeartbeats 4000000 in
theorem times_any {a b : List Nat} {va vb : Value} {w : World} (ha : RdU w va a) (hb : RdU w vb b) (da : Dig a) (db : Dig b) (la : a.length ≤ 100) (lb : b.length ≤ 100) :
    Calls Try.prog 47 #[va, vb] w fun e w' => ∃ v out, e = .returned v ∧ RdU w' v out ∧ Dig out ∧ out.length = a.length + b.length + 1 ∧ val out = val a * val b ∧ Fr0 w w' := by
  obtain ⟨Aa, ca, rfl, -, -, -⟩ := Rd.form ha
  obtain ⟨Ab, cb, rfl, -, -, -⟩ := Rd.form hb
  have DA := Lib.hid da
  have DB := Lib.hid db
  obtain ⟨na, hna⟩ : ∃ n, n = a.length := ⟨_, rfl⟩
  obtain ⟨nb, hnb⟩ : ∃ n, n = b.length := ⟨_, rfl⟩
  rw [← hna] at la ha ⊢
  rw [← hnb] at lb hb ⊢
  have HA := Lib.hid ha
  have HB := Lib.hid hb
  have HNA := Lib.hid hna
  have HNB := Lib.hid hnb
  have HT0 := Lib.hid (fun i (hi : i < na) => times_tot da db (i := i) (by omega))
  clear ha hb da db hna hnb
  go_enter Try.func47, Try.ntmps47
  go_wp2_with (refine list_make_u rfl _ _ rfl (na + nb + 1) (by first | rfl | (simp [Act.eval, Act.put]; done) | (simp [Act.eval, Act.put]; omega)) (by first | rfl | (simp [Act.eval, Act.put]; done) | (simp [Act.eval, Act.put]; omega)) (by omega) ?_; intro g w1 hB hF hg; have B1 := Lib.hid hB; have F1 := Lib.hid hF; have G1 := Lib.hid hg; clear hB hF hg)
  have hg := G1.out
  go_loopw [6] (fun v6 wr => ∃ (i : Nat) (L : List Nat), i ≤ na ∧ v6 = .int .i64 i ∧ Blk wr g (ucells L).toArray 46 ∧ L.length = na + nb + 1 ∧ Hid (Dig L ∧ val L = val (a.take i) * val b) ∧ Fr0 w wr) (fun v6 _ => na - (intOf v6).toNat)
  case atStart => exact ⟨0, _, Nat.zero_le _, rfl, B1.out, by simp, Lib.hid ⟨dig_zeros _, by rw [val_zeros]; simp [val]⟩, F1.out⟩
  case round =>
    obtain ⟨i, L, hi, rfl, hB, hL, hD, hF⟩ := hrel
    by_cases hlt : i < na
    · have B := Lib.hid hB
      have F := Lib.hid hF
      obtain ⟨ga, oa, rfl, hgl, -⟩ := ((HA.out).fr0 hF).cell (i := i) (by rw [← HNA.out]; exact hlt)
      have HAC := Lib.hid (fun (W : World) (h : Fr0 w W) => show W.cell? ⟨ga, oa + i, none⟩ = some (.int .u64 ((a.getD i 0 : Nat) : Int)) from by
        obtain ⟨g', o', hA, -, hc⟩ := ((HA.out).fr0 h).cell (i := i) (by rw [← HNA.out]; exact hlt)
        injection hA with hA; injection hA with h1 h2; subst h1 h2; exact hc)
      have HT := Lib.hid ((HT0.out) i hlt)
      have al := dig_getD DA.out i
      have HIL := Lib.hid hlt
      obtain ⟨ai, hai⟩ : ∃ x, x = a.getD i 0 := ⟨_, rfl⟩
      rw [← hai] at HAC HT al
      have i0 : (0 : Int) ≤ (i : Int) := by omega
      have i1 : (i : Int) < (na : Int) := by omega
      have q1 : decide ((i : Int) < (na : Int)) = true := by simp; omega
      have q2 : decide (i < na) = true := by simpa using hlt
      clear hB hF hgl hai hlt
      obtain ⟨wo, hwo⟩ : ∃ wo : World, wo = wr := ⟨_, rfl⟩
      subst hwo
      go_wp2_with fail
      go_loopw [7, 8] (fun v7 v8 wr => ∃ (k c : Nat) (L : List Nat), v8 = .int .i64 k ∧ v7 = .int .u64 c ∧ c < 65536 ∧ k ≤ na + nb + 1 ∧ Blk wr g (ucells L).toArray 46 ∧ L.length = na + nb + 1 ∧ Hid (Dig L ∧ val L + c * 65536 ^ (i + k) = val (a.take i) * val b + ai * 65536 ^ i * val (b.take k)) ∧ Fr0 w wr) (fun _ v8 _ => na + nb + 2 - (intOf v8).toNat)
      case atStart => exact ⟨0, 0, L, rfl, rfl, by omega, by omega, B.out, hL, Lib.hid ⟨(hD.out).1, by simp [val]; exact (hD.out).2⟩, F.out⟩
      case round =>
        obtain ⟨k, c, L, rfl, rfl, hc, hk, hB, hL, hDV, hF⟩ := hrel
        have B := Lib.hid hB
        have F := Lib.hid hF
        obtain ⟨dL, hv⟩ := hDV.out
        have hcn : (0 : Int) ≤ (c : Int) := by omega
        have k0 : (0 : Int) ≤ (k : Int) := by omega
        have hiN := HIL.out
        have ll := dig_getD dL (i + k)
        have n1 : ((i : Int) + (k : Int)).toNat = i + k := by omega
        have DS := Lib.hid (fun (x : Nat) (hx : x < 65536) => dig_set dL (i + k) hx)
        by_cases hkb : k < nb
        · have hin : i + k < na + nb + 1 := by omega
          have x1 : (i : Int) + (k : Int) < ((na + nb + 1 : Nat) : Int) := by omega
          have x2 : (i : Int) + (k : Int) < (na : Int) + (nb : Int) + 1 := by omega
          have cl := hB.cell (i + k) (v := .int .u64 ((L.getD (i + k) 0 : Nat) : Int)) (by rw [List.getElem?_toArray]; exact ucells_at L (i + k) (by omega))
          have fz := hB.free (i + k)
          obtain ⟨lk, hlk⟩ : ∃ x, x = L.getD (i + k) 0 := ⟨_, rfl⟩
          rw [← hlk] at cl ll
          have HLK := Lib.hid hlk
          have q3 : decide ((k : Int) < (nb : Int)) = true := by simp; omega
          have q4 : decide (k < nb) = true := by simpa using hkb
          have k1 : (k : Int) < (nb : Int) := by omega
          obtain ⟨gb, ob, rfl, -, cb0⟩ := ((HB.out).fr0 hF).cell (i := k) (by rw [← HNB.out]; exact hkb)
          have ca0 := (HAC.out) _ hF
          have bl := dig_getD DB.out k
          have HBT := Lib.hid (val_take (l := b) (k := k) (by rw [← HNB.out]; exact hkb))
          obtain ⟨bk, hbk⟩ : ∃ x, x = b.getD k 0 := ⟨_, rfl⟩
          rw [← hbk] at cb0 bl HBT
          obtain ⟨mab, hmab⟩ : ∃ z, z = ai * bk := ⟨_, rfl⟩
          have emab : (ai : Int) * (bk : Int) = (mab : Int) := by rw [hmab]; exact (Int.natCast_mul ai bk).symm
          have HMAB := Lib.hid hmab
          have mabl : mab ≤ 4294836225 := by rw [hmab]; exact Nat.mul_le_mul (by omega : ai ≤ 65535) (by omega : bk ≤ 65535)
          obtain ⟨AIK, hAIK⟩ : ∃ z, z = ai * 65536 ^ i * val (b.take k) := ⟨_, rfl⟩
          rw [← hAIK] at hv
          have HAI := Lib.hid hAIK
          have HS := Lib.hid (times_step (P := 65536 ^ (i + k)) (V := val (a.take i) * val b) (A := AIK) (c := c) (Lk := lk) (s := (lk + c + ai * bk)) (v := val L) (v' := val (L.set (i + k) ((lk + c + ai * bk) % 65536))) (t := (ai * bk)) hv rfl (by have h := val_set L (i + k) ((lk + c + ai * bk) % 65536) (by omega); rw [← HLK.out] at h; exact h))
          have hs64 : (lk + c + ai * bk) < 4294967296 := by have hm : ai * bk ≤ 65535 * 65535 := Nat.mul_le_mul (by omega) (by omega)
                                                            omega
          obtain ⟨s, hs⟩ : ∃ s, s = (lk + c + ai * bk) := ⟨_, rfl⟩
          rw [← hs] at HS hs64
          have es : (lk : Int) + (c : Int) + (mab : Int) = (s : Int) := by rw [hs]; rw [HMAB.out]; omega
          have e1 : (s : Int) % 65536 = ((s % 65536 : Nat) : Int) := by omega
          have e2 : (s : Int) / 65536 = ((s / 65536 : Nat) : Int) := by omega
          have sq : s / 65536 < 65536 := by omega
          have sr : s % 65536 < 65536 := by omega
          obtain ⟨sm, hsm⟩ : ∃ z, z = s % 65536 := ⟨_, rfl⟩
          obtain ⟨sd, hsd⟩ : ∃ z, z = s / 65536 := ⟨_, rfl⟩
          rw [← hsm] at HS e1 sr
          rw [← hsd] at HS e2 sq
          have HEN := Lib.hid (show (L.set (i + k) sm).length = na + nb + 1 by rw [List.length_set]; exact hL)
          clear hB hF dL hv hlk hkb hbk hmab hAIK hs hsm hsd hL hDV
          go_wp2_with fail
          go_quiet (fail)
          go_wp2_with fail
          go_roundw
          case measure => simp [intOf]; omega
          case rel =>
            have h := ((B.out).drewN nq).set (i + k) (.int .u64 (sm : Int))
            rw [ucells_set] at h
            exact ⟨k + 1, sd, L.set (i + k) sm, by go_num, rfl, sq, by omega, h, HEN.out, Lib.hid ⟨(DS.out) sm sr, by
              rw [show i + (k + 1) = (i + k) + 1 from by omega, Nat.pow_succ, HS.out, HBT.out, Nat.mul_add, ← HAI.out, Nat.pow_add]
              congr 2
              simp only [Nat.mul_comm, Nat.mul_left_comm, Nat.mul_assoc]⟩, Fr.setCell (p := ⟨g, i + k, none⟩) ((F.out).drewN nq) (.inr hg) _⟩
        · have HTB := Lib.hid (show b.take k = b ∧ b.take (k + 1) = b from ⟨List.take_of_length_le (by rw [← HNB.out]; omega), List.take_of_length_le (by rw [← HNB.out]; omega)⟩)
          have q3 : decide ((k : Int) < (nb : Int)) = false := by simp; omega
          have q4 : decide (k < nb) = false := by simpa using hkb
          by_cases hc0 : 0 < c
          · have hroom : i + k < i + 1 + nb := by
              have h1 := hv
              rw [(HTB.out).1, (HT.out).1] at h1
              have h2 := (HT.out).2
              rw [← HNB.out] at h2
              exact times_room (by rw [h1]; exact h2) hc0
            have hin : i + k < na + nb + 1 := by omega
            have x1 : (i : Int) + (k : Int) < ((na + nb + 1 : Nat) : Int) := by omega
            have x2 : (i : Int) + (k : Int) < (na : Int) + (nb : Int) + 1 := by omega
            have cl := hB.cell (i + k) (v := .int .u64 ((L.getD (i + k) 0 : Nat) : Int)) (by rw [List.getElem?_toArray]; exact ucells_at L (i + k) (by omega))
            have fz := hB.free (i + k)
            obtain ⟨lk, hlk⟩ : ∃ x, x = L.getD (i + k) 0 := ⟨_, rfl⟩
            rw [← hlk] at cl ll
            have HLK := Lib.hid hlk
            have q5 : decide (0 < (c : Int)) = true := by simp; omega
            have q6 : decide (0 < c) = true := by simpa using hc0
            obtain ⟨AIK, hAIK⟩ : ∃ z, z = ai * 65536 ^ i * val (b.take k) := ⟨_, rfl⟩
            rw [← hAIK] at hv
            have HAI := Lib.hid hAIK
            have HS := Lib.hid (times_step (P := 65536 ^ (i + k)) (V := val (a.take i) * val b) (A := AIK) (c := c) (Lk := lk) (s := lk + c + 0) (v := val L) (v' := val (L.set (i + k) ((lk + c + 0) % 65536))) (t := 0) hv rfl (by have h := val_set L (i + k) ((lk + c + 0) % 65536) (by omega); rw [← HLK.out] at h; exact h))
            have hs64 : lk + c + 0 < 4294967296 := by omega
            obtain ⟨s, hs⟩ : ∃ s, s = lk + c + 0 := ⟨_, rfl⟩
            rw [← hs] at HS hs64
            have es : (lk : Int) + (c : Int) = (s : Int) := by rw [hs]; omega
            have e1 : (s : Int) % 65536 = ((s % 65536 : Nat) : Int) := by omega
            have e2 : (s : Int) / 65536 = ((s / 65536 : Nat) : Int) := by omega
            have sq : s / 65536 < 65536 := by omega
            have sr : s % 65536 < 65536 := by omega
            obtain ⟨sm, hsm⟩ : ∃ z, z = s % 65536 := ⟨_, rfl⟩
            obtain ⟨sd, hsd⟩ : ∃ z, z = s / 65536 := ⟨_, rfl⟩
            rw [← hsm] at HS e1 sr
            rw [← hsd] at HS e2 sq
            have HEN := Lib.hid (show (L.set (i + k) sm).length = na + nb + 1 by rw [List.length_set]; exact hL)
            clear hB hF dL hv hlk hkb hAIK hs hsm hsd hL hDV hc0
            go_wp2_with fail
            go_roundw
            case measure => simp [intOf]; omega
            case rel =>
              have h := (B.out).set (i + k) (.int .u64 (sm : Int))
              rw [ucells_set] at h
              exact ⟨k + 1, sd, L.set (i + k) sm, by go_num, rfl, sq, by omega, h, HEN.out, Lib.hid ⟨(DS.out) sm sr, by
              rw [show i + (k + 1) = (i + k) + 1 from by omega, Nat.pow_succ, HS.out, Nat.mul_zero, Nat.add_zero, HAI.out, (HTB.out).1, (HTB.out).2]⟩, Fr.setCell (p := ⟨g, i + k, none⟩) F.out (.inr hg) _⟩
          · obtain rfl : c = 0 := by omega
            have q5 : decide ((0 : Int) < 0) = false := by simp
            have HV2 := Lib.hid (show val L = val (a.take (i + 1)) * val b by
              have h1 := hv
              rw [(HTB.out).1, (HT.out).1, Nat.zero_mul, Nat.add_zero] at h1
              exact h1)
            have DL := Lib.hid dL
            have HLL := Lib.hid hL
            have K2 := Lib.hid hkb
            clear hB hF dL hv hkb hL hDV hc0
            go_wp2_with fail
            go_roundw
            case measure => simp [intOf]; omega
            case rel => exact ⟨i + 1, L, by omega, by go_num, B.out, HLL.out, Lib.hid ⟨DL.out, HV2.out⟩, F.out⟩
    · obtain rfl : i = na := by omega
      have q1 : decide ((i : Int) < (i : Int)) = false := by simp
      have HRU := Lib.hid (show RdU wr (.slice (some ⟨g, 0, none⟩) (i + nb + 1) (i + nb + 1)) L from by
        unfold RdU
        rw [hL]
        exact ⟨by rw [ucells_len, hL], ⟨_, _, rfl, Nat.le_refl _, by unfold maxLen; omega, fun h => by cases h⟩, fun _ => ⟨g, 0, _, _, _, _, rfl, hB, fun j u hu => by simpa using hu⟩⟩)
      have HV := Lib.hid (show val L = val a * val b by have h := (hD.out).2; rw [List.take_of_length_le (by rw [← HNA.out]; omega)] at h; exact h)
      have F := Lib.hid hF
      have DL := Lib.hid (hD.out).1
      have HLL := Lib.hid hL
      clear hB hF hL hD hlt
      go_wp2_with fail
      go_ret
      exact ⟨_, L, rfl, HRU.out, DL.out, HLL.out, HV.out, F.out⟩
end Go.Proofs.Ytjkcbklgddnbdaa
