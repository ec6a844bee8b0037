/- The reference's root walked. Conditions stand in the statements. -/
import Derived.Test.YtjkcbklgddnbdaaShaTimes
import Derived.Test.YtjkcbklgddnbdaaShaAbove
import Derived.Deep.CutBlock
import Derived.Deep.DeepCutAuto
set_option linter.unusedSimpArgs false
namespace Go.Proofs.Ytjkcbklgddnbdaa
open Go.RowKit

/-- The greatest number of 40 bits whose power is not above T, bit by bit. -/
def RC (f : Nat → Nat) (T : Nat) : Nat → Nat
  | 0 => 0
  | j + 1 => if f (RC f T j + 2 ^ (39 - j)) ≤ T then RC f T j + 2 ^ (39 - j) else RC f T j
theorem rc_le (f : Nat → Nat) (T : Nat) : ∀ j, j ≤ 40 → RC f T j + 2 ^ (40 - j) ≤ 1099511627776 := by
  intro j
  induction j with
  | zero => intro _; simp [RC]
  | succ j ih =>
    intro h
    have h1 := ih (by omega)
    have e : 2 ^ (40 - j) = 2 ^ (39 - j) + 2 ^ (39 - j) := by rw [show 40 - j = (39 - j) + 1 from by omega, Nat.pow_succ]; omega
    have p1 : 1 ≤ 2 ^ (39 - j) := Nat.one_le_two_pow
    rw [show 40 - (j + 1) = 39 - j from by omega]
    unfold RC
    split <;> omega
theorem wp_make_u {o : Oper} {a : Act} {w : World} {K : Act → World → Prop} {Q : Exit → Act → World → Prop} (x y : Operand) (ho : o.op = .makeSlice 71 x y) (n : Nat) (hx : a.eval x = .int .i64 (n : Int)) (hy : a.eval y = .int .i64 (n : Int)) (hn : n ≤ 1000)
    (h : ∀ g W1, Blk W1 g (ucells (List.replicate n 0)).toArray 46 → Fr0 w W1 → w.heap.size ≤ g → K (a.put o.dst (.slice (some ⟨g, 0, none⟩) n n)) W1) : Oper.wp Try.prog o a w K Q := by
  obtain ⟨i, hi, hz0, hz1, hz2⟩ := info_parts infoU64
  have hr := run_make (P := Try.prog) w 71 46 i _ Try.underlying71 hi hz0 .i64 .i64 (n : Int) (n : Int) (by omega) (Int.le_refl _) (by rw [hz2]; omega) (by omega)
  rw [Int.toNat_natCast, hz1, Nat.mul_one] at hr
  unfold Oper.wp execOp
  simp only [ho, hx, hy, Sem.run_bind, hr, Result.andThen_ok]
  refine h w.heap.size _ ?_ ((Fr0.refl w).alloc _) (Nat.le_refl _)
  have hb := Blk.new w (madeCells (Value.int .u64 0).cells n) 46
  rw [show (madeCells (Value.int .u64 0).cells n) = (ucells (List.replicate n 0)).toArray from by
    apply Array.toList_inj.1
    rw [show (Value.int .u64 0).cells = #[Value.int .u64 0] from rfl, toList_madeCells_one]
    simp [ucells]] at hb ⊢
  exact hb
theorem wp_append_u {o : Oper} {a : Act} {w0 w : World} {K : Act → World → Prop} {Q : Exit → Act → World → Prop} (s x : Operand) (ho : o.op = .call { callee := .builtin .append, args := #[s, x], argTypes := #[71, 71] }) (hf : Fr0 w0 w)
    {v v2 : Value} {l m : List Nat} (hown : w.ownsRow w0.heap.size 46 1 v l.length (ucells l)) (hs : a.eval s = v) (hr : RdU w v2 m) (hx : a.eval x = v2) (hl : l.length + m.length ≤ 1000)
    (h : ∀ A c w', w'.ownsRow w0.heap.size 46 1 (.slice A (l.length + m.length) c) (l.length + m.length) (ucells (l ++ m)) → Fr0 w0 w' → K (a.put o.dst (.slice A (l.length + m.length) c)) w') : Oper.wp Try.prog o a w K Q := by
  obtain ⟨i, hi, hz0, hz1, hz2⟩ := info_parts infoU64
  obtain ⟨A, c, w', hrun, hown', hf'⟩ := run_append_rd (P := Try.prog) hf 71 o.type 46 i _ 1 8 Try.underlying71 hi hz0 hz1 hz2 rfl (by decide) v l.length (ucells l) hown v2 m.length (ucells m) hr (ucells_one m) (by unfold maxLen; omega) (by omega)
  unfold Oper.wp execOp
  simp only [ho, resolve, invoke, builtin, Sem.run_bind, Sem.run_pure, Result.andThen_ok, List.map_toArray, List.map_cons, List.map_nil, hs, hx, hrun]
  exact h A c w' (by rw [ucells_app]; exact hown') hf'
set_option maxHeartbeats 4000000 in
theorem root2_any (n : Nat) (w : World) (hn : n < 4294967296) : Calls Try.prog 36 #[.int .u64 n, .bool false] w fun e w' => e = .returned (.int .u64 (RC (fun r => r * r) (n * 65536 ^ 4) 40 : Nat)) ∧ Fr0 w w' := by
  have HDG := Lib.hid (fun W => digits_any n W (by omega))
  obtain ⟨f, hf0⟩ : ∃ f : Nat → Nat, f = fun r => r * r := ⟨_, rfl⟩
  rw [← hf0]
  have HFF := Lib.hid (fun r => show f r = r * r by rw [hf0])
  have HMV := Lib.hid (show val (List.replicate 4 0 ++ digs n) = n * 65536 ^ 4 by rw [val_app, val_zeros, List.length_replicate, digs_val (by omega), Nat.zero_add, Nat.mul_comm])
  have HMD := Lib.hid (show Dig (List.replicate 4 0 ++ digs n) from fun x hx => by rcases List.mem_append.1 hx with h | h; exact dig_zeros _ x h; exact digs_dig n x h)
  have HML := Lib.hid (show (List.replicate 4 0 ++ digs n).length = 8 from rfl)
  obtain ⟨T, hT⟩ : ∃ T, T = n * 65536 ^ 4 := ⟨_, rfl⟩
  rw [← hT] at HMV ⊢
  clear hf0 hT
  go_enter Try.func36, Try.ntmps36
  go_upto_region 4 with (fail)
  go_cut [6] (fun s wx => ∃ A c, s = .slice A 8 c ∧ wx.ownsRow w.heap.size 46 1 (.slice A 8 c) 8 (ucells (List.replicate 4 0 ++ digs n)) ∧ Fr0 w wx)
  case first =>
    have FW := Lib.hid ((Fr0.refl w).drew)
    refine wp_region_held_drew (S := (fun _ => True)) (by kernel_rfl) trivial (fun hHeld => ?_)
    have _hI : True := trivial
    clear _hI
    refine takeH (i := 0) rfl (by kernel_rfl) (by kernel_rfl) (by kernel_rfl) (fun _ _ _ h => h) (yields_move rfl _ rfl) trivial ?_
    try simp only [Act.put, List.setIfInBounds_toArray, List.set_cons_zero, List.set_cons_succ]
    have _hI : True := trivial
    clear _hI
    refine takeH (i := 2) rfl (by kernel_rfl) (by kernel_rfl) (by kernel_rfl) (fun _ _ _ h => h) (yields_move rfl _ rfl) trivial ?_
    try simp only [Act.put, List.setIfInBounds_toArray, List.set_cons_zero, List.set_cons_succ]
    have _hI : True := trivial
    clear _hI
    refine wpAnyH_ready (rs := [1, 3]) (by kernel_rfl) (by simp) (consH rfl rfl (fun K hK => ?_) (consH rfl rfl (fun K hK => ?_) AllReadyH.nil))
    ·
      have _hI : True := trivial
      clear _hI
      refine wp_make_u (.tmp 12) (.tmp 12) rfl 4 rfl rfl (by decide) ?_
      intro g W1 hB hF hg
      have hgw := Nat.le_trans (FW.out).size hg
      replace FW := Lib.hid (Fr0.trans FW.out hF)
      have OM := Lib.hid (show W1.ownsRow w.heap.size 46 1 (.slice (some ⟨g, 0, none⟩) 4 4) 4 (ucells (List.replicate 4 0)) from own_of_block (size := 1) hB hgw (Nat.le_refl _) (by unfold maxLen; decide) rfl)
      have zg := hF.size
      clear hB hF
      refine hK.out _ _ trivial ?_
      clear hK
      try simp only [Act.put, List.setIfInBounds_toArray, List.set_cons_zero, List.set_cons_succ]
      have _hI : True := trivial
      clear _hI
      refine wpAnyH_ready (rs := [3]) (by kernel_rfl) (by simp) (consH rfl rfl (fun K hK => ?_) AllReadyH.nil)
      have _hI : True := trivial
      clear _hI
      go_simp
      refine (HDG.out _).mono ?_
      rintro e W2 ⟨dv, rfl, hrd, hf⟩
      have RD := Lib.hid hrd
      replace OM := Lib.hid (own_fr OM.out hf (fun _ _ h => h))
      replace FW := Lib.hid (Fr0.trans FW.out hf)
      have zc := hf.size
      clear hf hrd
      refine hK.out _ _ trivial ?_
      clear hK
      try simp only [Act.put, List.setIfInBounds_toArray, List.set_cons_zero, List.set_cons_succ]
      have _hI : True := trivial
      clear _hI
      refine wpAnyH_ready (rs := [4]) (by kernel_rfl) (by simp) (consH rfl rfl (fun K hK => ?_) AllReadyH.nil)
      have _hI : True := trivial
      clear _hI
      refine wp_append_u (.tmp 13) (.tmp 15) rfl FW.out (l := List.replicate 4 0) (m := digs n) OM.out rfl RD.out rfl (by show 4 + 4 ≤ 1000; omega) ?_
      intro A5 c5 w5 ho5 hf5
      refine hK.out _ _ trivial ?_
      clear hK
      try simp only [Act.put, List.setIfInBounds_toArray, List.set_cons_zero, List.set_cons_succ]
      have _hI : True := trivial
      clear _hI
      refine wpAnyH_ready (rs := [5]) (by kernel_rfl) (by simp) (consH rfl rfl (fun K hK => ?_) AllReadyH.nil)
      have _hI : True := trivial
      clear _hI
      go_simp
      refine hK.out _ _ trivial ?_
      clear hK
      try simp only [Act.put, List.setIfInBounds_toArray, List.set_cons_zero, List.set_cons_succ]
      refine wpAnyH_done (by kernel_rfl) ?_ _
      go_wp2_with fail
      go_meet
      exact ⟨A5, c5, rfl, ho5, hf5⟩
    ·
      have _hI : True := trivial
      clear _hI
      go_simp
      refine (HDG.out _).mono ?_
      rintro e W2 ⟨dv, rfl, hrd, hf⟩
      have RD := Lib.hid hrd
      replace FW := Lib.hid (Fr0.trans FW.out hf)
      have zc := hf.size
      clear hf hrd
      refine hK.out _ _ trivial ?_
      clear hK
      try simp only [Act.put, List.setIfInBounds_toArray, List.set_cons_zero, List.set_cons_succ]
      have _hI : True := trivial
      clear _hI
      refine wpAnyH_ready (rs := [1]) (by kernel_rfl) (by simp) (consH rfl rfl (fun K hK => ?_) AllReadyH.nil)
      have _hI : True := trivial
      clear _hI
      refine wp_make_u (.tmp 12) (.tmp 12) rfl 4 rfl rfl (by decide) ?_
      intro g W1 hB hF hg
      replace RD := Lib.hid ((RD.out).fr0 hF)
      have hgw := Nat.le_trans (FW.out).size hg
      replace FW := Lib.hid (Fr0.trans FW.out hF)
      have OM := Lib.hid (show W1.ownsRow w.heap.size 46 1 (.slice (some ⟨g, 0, none⟩) 4 4) 4 (ucells (List.replicate 4 0)) from own_of_block (size := 1) hB hgw (Nat.le_refl _) (by unfold maxLen; decide) rfl)
      have zg := hF.size
      clear hB hF
      refine hK.out _ _ trivial ?_
      clear hK
      try simp only [Act.put, List.setIfInBounds_toArray, List.set_cons_zero, List.set_cons_succ]
      have _hI : True := trivial
      clear _hI
      refine wpAnyH_ready (rs := [4]) (by kernel_rfl) (by simp) (consH rfl rfl (fun K hK => ?_) AllReadyH.nil)
      have _hI : True := trivial
      clear _hI
      refine wp_append_u (.tmp 13) (.tmp 15) rfl FW.out (l := List.replicate 4 0) (m := digs n) OM.out rfl RD.out rfl (by show 4 + 4 ≤ 1000; omega) ?_
      intro A5 c5 w5 ho5 hf5
      refine hK.out _ _ trivial ?_
      clear hK
      try simp only [Act.put, List.setIfInBounds_toArray, List.set_cons_zero, List.set_cons_succ]
      have _hI : True := trivial
      clear _hI
      refine wpAnyH_ready (rs := [5]) (by kernel_rfl) (by simp) (consH rfl rfl (fun K hK => ?_) AllReadyH.nil)
      have _hI : True := trivial
      clear _hI
      go_simp
      refine hK.out _ _ trivial ?_
      clear hK
      try simp only [Act.put, List.setIfInBounds_toArray, List.set_cons_zero, List.set_cons_succ]
      refine wpAnyH_done (by kernel_rfl) ?_ _
      go_wp2_with fail
      go_meet
      exact ⟨A5, c5, rfl, ho5, hf5⟩
  case rest =>
    obtain ⟨A, c, rfl, ho, hf⟩ := hcut
    have HM := Lib.hid (show RdU wc (.slice A 8 c) (List.replicate 4 0 ++ digs n) from Rd.of_own ho)
    have F0 := Lib.hid hf
    obtain ⟨most, hmost⟩ : ∃ l, l = List.replicate 4 0 ++ digs n := ⟨_, rfl⟩
    rw [← hmost] at HM HMV HMD HML
    clear ho hf hmost
    go_wp2_with fail
    go_loopw [7, 8] (fun v7 v8 wr => ∃ (j r : Nat) (i : Int), j ≤ 40 ∧ v7 = .int .u64 r ∧ v8 = .int .i64 i ∧ Hid (i + j = 39) ∧ Hid (r = RC f T j) ∧ Fr0 w wr ∧ Fr0 wc wr) (fun _ v8 _ => (intOf v8 + 1).toNat)
    case atStart => exact ⟨0, 0, 39, by omega, rfl, rfl, Lib.hid (by omega), Lib.hid rfl, F0.out, Fr0.refl _⟩
    case round =>
      obtain ⟨j, r, i, hj, rfl, rfl, hi, hr, hf, hf2⟩ := hrel
      by_cases hlt : j < 40
      · obtain ⟨b, hb⟩ : ∃ b, b = 39 - j := ⟨_, rfl⟩
        have hii := hi.out
        obtain rfl : i = (b : Int) := by omega
        have hrb := rc_le f T j (by omega)
        rw [← hr.out] at hrb
        have HRC := Lib.hid (show RC f T (j + 1) = if f (r + 2 ^ b) ≤ T then r + 2 ^ b else r by rw [hr.out, hb]; rfl)
        have hpb : r + 2 ^ b < 1099511627776 := by
          rw [show 40 - j = b + 1 from by omega, Nat.pow_succ] at hrb
          have : 1 ≤ 2 ^ b := Nat.one_le_two_pow
          omega
        obtain ⟨pb, hpe⟩ : ∃ x, x = 2 ^ b := ⟨_, rfl⟩
        rw [← hpe] at HRC hpb
        have ew : IntKind.u64.wrap ((2 : Int) ^ b) = (pb : Int) := by
          rw [hpe, Int.natCast_pow]
          show ((2 : Int) ^ b) % 18446744073709551616 = _
          have h1 : ((2 ^ b : Nat) : Int) = (2 : Int) ^ b := by rw [Int.natCast_pow]; rfl
          rw [← h1, ← hpe]
          have h2 : ((2 : Nat) : Int) ^ b = (pb : Int) := by rw [hpe, Int.natCast_pow]
          rw [h2]
          omega
        obtain ⟨q, hq⟩ : ∃ q, q = r + pb := ⟨_, rfl⟩
        have eq1 : (r : Int) + (pb : Int) = (q : Int) := by rw [hq]; omega
        rw [← hq] at HRC hpb
        have HDR := Lib.hid (fun W => digits_any q W (by omega))
        have hq2 : q < 18446744073709551616 := by omega
        have HQ := Lib.hid (show val (digs q) = q from digs_val hq2)
        have HFQ := Lib.hid ((HFF.out) q)
        have HI := Lib.hid (And.intro hlt (And.intro hii hb))
        have r0 : (0 : Int) ≤ (r : Int) := by omega
        have HRR := Lib.hid hr.out
        have HQE := Lib.hid hq
        have F := Lib.hid hf
        have F2 := Lib.hid hf2
        have L4 := Lib.hid (show (digs q).length = 4 from rfl)
        have hj39 : j ≤ 39 := by omega
        have b0 : (0 : Int) ≤ (b : Int) := by omega
        have b1 : (b : Int) ≤ 39 := by omega
        clear hi hii hr hf hf2 hrb hpe hq hlt hb hj
        by_cases hle : f q ≤ T
        · have HR3 := Lib.hid (show RC f T (j + 1) = q by rw [HRC.out, if_pos hle])
          have HLE := Lib.hid (show ∀ out, val out = f q → decide (val most < val out) = false from fun out h => decide_eq_false (by rw [h, HMV.out]; omega))
          clear hle
          go_wp2_with (first
            | (go_at_call 46; refine (HDR.out _).mono ?_; rintro e wx ⟨xv, rfl, hrx, hfx⟩; obtain ⟨Ax, cx, rfl, -⟩ := Rd.form hrx; have X := Lib.hid hrx; have FX := Lib.hid hfx; clear hrx hfx)
            | (go_at_call 47; refine (times_any X.out X.out (digs_dig q) (digs_dig q) (by rw [L4.out]; omega) (by rw [L4.out]; omega)).mono ?_; rintro e wy ⟨yv, oy, rfl, hry, dy, ly, vy, hfy⟩; obtain ⟨Ay, cy, rfl, -⟩ := Rd.form hry; have Y := Lib.hid hry; have DY := Lib.hid dy; have LY := Lib.hid (show oy.length ≤ 100 by rw [ly, L4.out]; omega); have VY := Lib.hid (show val oy = q * q by rw [vy, HQ.out]); have FY := Lib.hid (Fr0.trans FX.out hfy); have X2 := Lib.hid ((X.out).fr0 hfy); clear hry dy ly vy hfy)
            | (go_at_call 48; refine (above_any Y.out ((HM.out).fr0 (Fr0.trans F2.out FY.out)) DY.out HMD.out (Nat.le_trans LY.out (by decide)) (by rw [HML.out]; omega)).mono ?_; rintro e wz ⟨he, rfl⟩; rw [(HLE.out) _ (show val oy = f q by rw [HFQ.out]; exact VY.out)] at he; subst he; have FE := Lib.hid FY.out))
          go_roundw
          case measure => (first | (simp [intOf]; done) | (simp [intOf]; omega))
          case rel => exact ⟨j + 1, q, (b : Int) - 1, by omega, rfl, rfl, Lib.hid (by have := (HI.out).2.1; omega), Lib.hid HR3.out.symm, Fr0.trans F.out FE.out, Fr0.trans F2.out FE.out⟩
        · have HR3 := Lib.hid (show RC f T (j + 1) = r by rw [HRC.out, if_neg hle])
          have HLE := Lib.hid (show ∀ out, val out = f q → decide (val most < val out) = true from fun out h => decide_eq_true (by rw [h, HMV.out]; omega))
          clear hle
          go_wp2_with (first
            | (go_at_call 46; refine (HDR.out _).mono ?_; rintro e wx ⟨xv, rfl, hrx, hfx⟩; obtain ⟨Ax, cx, rfl, -⟩ := Rd.form hrx; have X := Lib.hid hrx; have FX := Lib.hid hfx; clear hrx hfx)
            | (go_at_call 47; refine (times_any X.out X.out (digs_dig q) (digs_dig q) (by rw [L4.out]; omega) (by rw [L4.out]; omega)).mono ?_; rintro e wy ⟨yv, oy, rfl, hry, dy, ly, vy, hfy⟩; obtain ⟨Ay, cy, rfl, -⟩ := Rd.form hry; have Y := Lib.hid hry; have DY := Lib.hid dy; have LY := Lib.hid (show oy.length ≤ 100 by rw [ly, L4.out]; omega); have VY := Lib.hid (show val oy = q * q by rw [vy, HQ.out]); have FY := Lib.hid (Fr0.trans FX.out hfy); have X2 := Lib.hid ((X.out).fr0 hfy); clear hry dy ly vy hfy)
            | (go_at_call 48; refine (above_any Y.out ((HM.out).fr0 (Fr0.trans F2.out FY.out)) DY.out HMD.out (Nat.le_trans LY.out (by decide)) (by rw [HML.out]; omega)).mono ?_; rintro e wz ⟨he, rfl⟩; rw [(HLE.out) _ (show val oy = f q by rw [HFQ.out]; exact VY.out)] at he; subst he; have FE := Lib.hid FY.out))
          go_roundw
          case measure => (first | (simp [intOf]; done) | (simp [intOf]; omega))
          case rel => exact ⟨j + 1, r, (b : Int) - 1, by omega, rfl, rfl, Lib.hid (by have := (HI.out).2.1; omega), Lib.hid HR3.out.symm, Fr0.trans F.out FE.out, Fr0.trans F2.out FE.out⟩
      · obtain rfl : j = 40 := by omega
        have hii := hi.out
        obtain rfl : i = -1 := by omega
        have HR := Lib.hid hr.out
        have F := Lib.hid hf
        clear hi hr hf hf2 hii hlt hj
        go_wp2_with fail
        go_ret
        exact ⟨by rw [← HR.out]; rfl, F.out⟩
set_option maxHeartbeats 4000000 in
theorem root3_any (n : Nat) (w : World) (hn : n < 4294967296) : Calls Try.prog 36 #[.int .u64 n, .bool true] w fun e w' => e = .returned (.int .u64 (RC (fun r => r * r * r) (n * 65536 ^ 6) 40 : Nat)) ∧ Fr0 w w' := by
  have HDG := Lib.hid (fun W => digits_any n W (by omega))
  obtain ⟨f, hf0⟩ : ∃ f : Nat → Nat, f = fun r => r * r * r := ⟨_, rfl⟩
  rw [← hf0]
  have HFF := Lib.hid (fun r => show f r = r * r * r by rw [hf0])
  have HMV := Lib.hid (show val (List.replicate 6 0 ++ digs n) = n * 65536 ^ 6 by rw [val_app, val_zeros, List.length_replicate, digs_val (by omega), Nat.zero_add, Nat.mul_comm])
  have HMD := Lib.hid (show Dig (List.replicate 6 0 ++ digs n) from fun x hx => by rcases List.mem_append.1 hx with h | h; exact dig_zeros _ x h; exact digs_dig n x h)
  have HML := Lib.hid (show (List.replicate 6 0 ++ digs n).length = 10 from rfl)
  obtain ⟨T, hT⟩ : ∃ T, T = n * 65536 ^ 6 := ⟨_, rfl⟩
  rw [← hT] at HMV ⊢
  clear hf0 hT
  go_enter Try.func36, Try.ntmps36
  go_upto_region 4 with (fail)
  go_cut [6] (fun s wx => ∃ A c, s = .slice A 10 c ∧ wx.ownsRow w.heap.size 46 1 (.slice A 10 c) 10 (ucells (List.replicate 6 0 ++ digs n)) ∧ Fr0 w wx)
  case first =>
    have FW := Lib.hid ((Fr0.refl w).drew)
    refine wp_region_held_drew (S := (fun _ => True)) (by kernel_rfl) trivial (fun hHeld => ?_)
    have _hI : True := trivial
    clear _hI
    refine takeH (i := 0) rfl (by kernel_rfl) (by kernel_rfl) (by kernel_rfl) (fun _ _ _ h => h) (yields_move rfl _ rfl) trivial ?_
    try simp only [Act.put, List.setIfInBounds_toArray, List.set_cons_zero, List.set_cons_succ]
    have _hI : True := trivial
    clear _hI
    refine takeH (i := 2) rfl (by kernel_rfl) (by kernel_rfl) (by kernel_rfl) (fun _ _ _ h => h) (yields_move rfl _ rfl) trivial ?_
    try simp only [Act.put, List.setIfInBounds_toArray, List.set_cons_zero, List.set_cons_succ]
    have _hI : True := trivial
    clear _hI
    refine wpAnyH_ready (rs := [1, 3]) (by kernel_rfl) (by simp) (consH rfl rfl (fun K hK => ?_) (consH rfl rfl (fun K hK => ?_) AllReadyH.nil))
    ·
      have _hI : True := trivial
      clear _hI
      refine wp_make_u (.tmp 12) (.tmp 12) rfl 6 rfl rfl (by decide) ?_
      intro g W1 hB hF hg
      have hgw := Nat.le_trans (FW.out).size hg
      replace FW := Lib.hid (Fr0.trans FW.out hF)
      have OM := Lib.hid (show W1.ownsRow w.heap.size 46 1 (.slice (some ⟨g, 0, none⟩) 6 6) 6 (ucells (List.replicate 6 0)) from own_of_block (size := 1) hB hgw (Nat.le_refl _) (by unfold maxLen; decide) rfl)
      have zg := hF.size
      clear hB hF
      refine hK.out _ _ trivial ?_
      clear hK
      try simp only [Act.put, List.setIfInBounds_toArray, List.set_cons_zero, List.set_cons_succ]
      have _hI : True := trivial
      clear _hI
      refine wpAnyH_ready (rs := [3]) (by kernel_rfl) (by simp) (consH rfl rfl (fun K hK => ?_) AllReadyH.nil)
      have _hI : True := trivial
      clear _hI
      go_simp
      refine (HDG.out _).mono ?_
      rintro e W2 ⟨dv, rfl, hrd, hf⟩
      have RD := Lib.hid hrd
      replace OM := Lib.hid (own_fr OM.out hf (fun _ _ h => h))
      replace FW := Lib.hid (Fr0.trans FW.out hf)
      have zc := hf.size
      clear hf hrd
      refine hK.out _ _ trivial ?_
      clear hK
      try simp only [Act.put, List.setIfInBounds_toArray, List.set_cons_zero, List.set_cons_succ]
      have _hI : True := trivial
      clear _hI
      refine wpAnyH_ready (rs := [4]) (by kernel_rfl) (by simp) (consH rfl rfl (fun K hK => ?_) AllReadyH.nil)
      have _hI : True := trivial
      clear _hI
      refine wp_append_u (.tmp 13) (.tmp 15) rfl FW.out (l := List.replicate 6 0) (m := digs n) OM.out rfl RD.out rfl (by show 6 + 4 ≤ 1000; omega) ?_
      intro A5 c5 w5 ho5 hf5
      refine hK.out _ _ trivial ?_
      clear hK
      try simp only [Act.put, List.setIfInBounds_toArray, List.set_cons_zero, List.set_cons_succ]
      have _hI : True := trivial
      clear _hI
      refine wpAnyH_ready (rs := [5]) (by kernel_rfl) (by simp) (consH rfl rfl (fun K hK => ?_) AllReadyH.nil)
      have _hI : True := trivial
      clear _hI
      go_simp
      refine hK.out _ _ trivial ?_
      clear hK
      try simp only [Act.put, List.setIfInBounds_toArray, List.set_cons_zero, List.set_cons_succ]
      refine wpAnyH_done (by kernel_rfl) ?_ _
      go_wp2_with fail
      go_meet
      exact ⟨A5, c5, rfl, ho5, hf5⟩
    ·
      have _hI : True := trivial
      clear _hI
      go_simp
      refine (HDG.out _).mono ?_
      rintro e W2 ⟨dv, rfl, hrd, hf⟩
      have RD := Lib.hid hrd
      replace FW := Lib.hid (Fr0.trans FW.out hf)
      have zc := hf.size
      clear hf hrd
      refine hK.out _ _ trivial ?_
      clear hK
      try simp only [Act.put, List.setIfInBounds_toArray, List.set_cons_zero, List.set_cons_succ]
      have _hI : True := trivial
      clear _hI
      refine wpAnyH_ready (rs := [1]) (by kernel_rfl) (by simp) (consH rfl rfl (fun K hK => ?_) AllReadyH.nil)
      have _hI : True := trivial
      clear _hI
      refine wp_make_u (.tmp 12) (.tmp 12) rfl 6 rfl rfl (by decide) ?_
      intro g W1 hB hF hg
      replace RD := Lib.hid ((RD.out).fr0 hF)
      have hgw := Nat.le_trans (FW.out).size hg
      replace FW := Lib.hid (Fr0.trans FW.out hF)
      have OM := Lib.hid (show W1.ownsRow w.heap.size 46 1 (.slice (some ⟨g, 0, none⟩) 6 6) 6 (ucells (List.replicate 6 0)) from own_of_block (size := 1) hB hgw (Nat.le_refl _) (by unfold maxLen; decide) rfl)
      have zg := hF.size
      clear hB hF
      refine hK.out _ _ trivial ?_
      clear hK
      try simp only [Act.put, List.setIfInBounds_toArray, List.set_cons_zero, List.set_cons_succ]
      have _hI : True := trivial
      clear _hI
      refine wpAnyH_ready (rs := [4]) (by kernel_rfl) (by simp) (consH rfl rfl (fun K hK => ?_) AllReadyH.nil)
      have _hI : True := trivial
      clear _hI
      refine wp_append_u (.tmp 13) (.tmp 15) rfl FW.out (l := List.replicate 6 0) (m := digs n) OM.out rfl RD.out rfl (by show 6 + 4 ≤ 1000; omega) ?_
      intro A5 c5 w5 ho5 hf5
      refine hK.out _ _ trivial ?_
      clear hK
      try simp only [Act.put, List.setIfInBounds_toArray, List.set_cons_zero, List.set_cons_succ]
      have _hI : True := trivial
      clear _hI
      refine wpAnyH_ready (rs := [5]) (by kernel_rfl) (by simp) (consH rfl rfl (fun K hK => ?_) AllReadyH.nil)
      have _hI : True := trivial
      clear _hI
      go_simp
      refine hK.out _ _ trivial ?_
      clear hK
      try simp only [Act.put, List.setIfInBounds_toArray, List.set_cons_zero, List.set_cons_succ]
      refine wpAnyH_done (by kernel_rfl) ?_ _
      go_wp2_with fail
      go_meet
      exact ⟨A5, c5, rfl, ho5, hf5⟩
  case rest =>
    obtain ⟨A, c, rfl, ho, hf⟩ := hcut
    have HM := Lib.hid (show RdU wc (.slice A 10 c) (List.replicate 6 0 ++ digs n) from Rd.of_own ho)
    have F0 := Lib.hid hf
    obtain ⟨most, hmost⟩ : ∃ l, l = List.replicate 6 0 ++ digs n := ⟨_, rfl⟩
    rw [← hmost] at HM HMV HMD HML
    clear ho hf hmost
    go_wp2_with fail
    go_loopw [7, 8] (fun v7 v8 wr => ∃ (j r : Nat) (i : Int), j ≤ 40 ∧ v7 = .int .u64 r ∧ v8 = .int .i64 i ∧ Hid (i + j = 39) ∧ Hid (r = RC f T j) ∧ Fr0 w wr ∧ Fr0 wc wr) (fun _ v8 _ => (intOf v8 + 1).toNat)
    case atStart => exact ⟨0, 0, 39, by omega, rfl, rfl, Lib.hid (by omega), Lib.hid rfl, F0.out, Fr0.refl _⟩
    case round =>
      obtain ⟨j, r, i, hj, rfl, rfl, hi, hr, hf, hf2⟩ := hrel
      by_cases hlt : j < 40
      · obtain ⟨b, hb⟩ : ∃ b, b = 39 - j := ⟨_, rfl⟩
        have hii := hi.out
        obtain rfl : i = (b : Int) := by omega
        have hrb := rc_le f T j (by omega)
        rw [← hr.out] at hrb
        have HRC := Lib.hid (show RC f T (j + 1) = if f (r + 2 ^ b) ≤ T then r + 2 ^ b else r by rw [hr.out, hb]; rfl)
        have hpb : r + 2 ^ b < 1099511627776 := by
          rw [show 40 - j = b + 1 from by omega, Nat.pow_succ] at hrb
          have : 1 ≤ 2 ^ b := Nat.one_le_two_pow
          omega
        obtain ⟨pb, hpe⟩ : ∃ x, x = 2 ^ b := ⟨_, rfl⟩
        rw [← hpe] at HRC hpb
        have ew : IntKind.u64.wrap ((2 : Int) ^ b) = (pb : Int) := by
          rw [hpe, Int.natCast_pow]
          show ((2 : Int) ^ b) % 18446744073709551616 = _
          have h1 : ((2 ^ b : Nat) : Int) = (2 : Int) ^ b := by rw [Int.natCast_pow]; rfl
          rw [← h1, ← hpe]
          have h2 : ((2 : Nat) : Int) ^ b = (pb : Int) := by rw [hpe, Int.natCast_pow]
          rw [h2]
          omega
        obtain ⟨q, hq⟩ : ∃ q, q = r + pb := ⟨_, rfl⟩
        have eq1 : (r : Int) + (pb : Int) = (q : Int) := by rw [hq]; omega
        rw [← hq] at HRC hpb
        have HDR := Lib.hid (fun W => digits_any q W (by omega))
        have hq2 : q < 18446744073709551616 := by omega
        have HQ := Lib.hid (show val (digs q) = q from digs_val hq2)
        have HFQ := Lib.hid ((HFF.out) q)
        have HI := Lib.hid (And.intro hlt (And.intro hii hb))
        have r0 : (0 : Int) ≤ (r : Int) := by omega
        have HRR := Lib.hid hr.out
        have HQE := Lib.hid hq
        have F := Lib.hid hf
        have F2 := Lib.hid hf2
        have L4 := Lib.hid (show (digs q).length = 4 from rfl)
        have hj39 : j ≤ 39 := by omega
        have b0 : (0 : Int) ≤ (b : Int) := by omega
        have b1 : (b : Int) ≤ 39 := by omega
        clear hi hii hr hf hf2 hrb hpe hq hlt hb hj
        by_cases hle : f q ≤ T
        · have HR3 := Lib.hid (show RC f T (j + 1) = q by rw [HRC.out, if_pos hle])
          have HLE := Lib.hid (show ∀ out, val out = f q → decide (val most < val out) = false from fun out h => decide_eq_false (by rw [h, HMV.out]; omega))
          clear hle
          go_wp2_with (first
            | (go_at_call 46; refine (HDR.out _).mono ?_; rintro e wx ⟨xv, rfl, hrx, hfx⟩; obtain ⟨Ax, cx, rfl, -⟩ := Rd.form hrx; have X := Lib.hid hrx; have FX := Lib.hid hfx; clear hrx hfx)
            | (have _q := Y; go_at_call 47; refine (times_any Y.out X2.out DY.out (digs_dig q) LY.out (by rw [L4.out]; omega)).mono ?_; rintro e wu ⟨uv, ou, rfl, hru, du, lu, vu, hfu⟩; obtain ⟨Au, cu, rfl, -⟩ := Rd.form hru; have U := Lib.hid hru; have DU := Lib.hid du; have LU := Lib.hid (show ou.length ≤ 1000 by rw [lu, L4.out]; have := LY.out; omega); have VU := Lib.hid (show val ou = f q by rw [vu, HQ.out, VY.out, HFQ.out]); have FU := Lib.hid (Fr0.trans FY.out hfu); clear hru du lu vu hfu)
            | (go_at_call 47; refine (times_any X.out X.out (digs_dig q) (digs_dig q) (by rw [L4.out]; omega) (by rw [L4.out]; omega)).mono ?_; rintro e wy ⟨yv, oy, rfl, hry, dy, ly, vy, hfy⟩; obtain ⟨Ay, cy, rfl, -⟩ := Rd.form hry; have Y := Lib.hid hry; have DY := Lib.hid dy; have LY := Lib.hid (show oy.length ≤ 100 by rw [ly, L4.out]; omega); have VY := Lib.hid (show val oy = q * q by rw [vy, HQ.out]); have FY := Lib.hid (Fr0.trans FX.out hfy); have X2 := Lib.hid ((X.out).fr0 hfy); clear hry dy ly vy hfy)
            | (go_at_call 48; refine (above_any U.out ((HM.out).fr0 (Fr0.trans F2.out FU.out)) DU.out HMD.out LU.out (by rw [HML.out]; omega)).mono ?_; rintro e wz ⟨he, rfl⟩; rw [(HLE.out) _ VU.out] at he; subst he; have FE := Lib.hid FU.out))
          go_roundw
          case measure => (first | (simp [intOf]; done) | (simp [intOf]; omega))
          case rel => exact ⟨j + 1, q, (b : Int) - 1, by omega, rfl, rfl, Lib.hid (by have := (HI.out).2.1; omega), Lib.hid HR3.out.symm, Fr0.trans F.out FE.out, Fr0.trans F2.out FE.out⟩
        · have HR3 := Lib.hid (show RC f T (j + 1) = r by rw [HRC.out, if_neg hle])
          have HLE := Lib.hid (show ∀ out, val out = f q → decide (val most < val out) = true from fun out h => decide_eq_true (by rw [h, HMV.out]; omega))
          clear hle
          go_wp2_with (first
            | (go_at_call 46; refine (HDR.out _).mono ?_; rintro e wx ⟨xv, rfl, hrx, hfx⟩; obtain ⟨Ax, cx, rfl, -⟩ := Rd.form hrx; have X := Lib.hid hrx; have FX := Lib.hid hfx; clear hrx hfx)
            | (have _q := Y; go_at_call 47; refine (times_any Y.out X2.out DY.out (digs_dig q) LY.out (by rw [L4.out]; omega)).mono ?_; rintro e wu ⟨uv, ou, rfl, hru, du, lu, vu, hfu⟩; obtain ⟨Au, cu, rfl, -⟩ := Rd.form hru; have U := Lib.hid hru; have DU := Lib.hid du; have LU := Lib.hid (show ou.length ≤ 1000 by rw [lu, L4.out]; have := LY.out; omega); have VU := Lib.hid (show val ou = f q by rw [vu, HQ.out, VY.out, HFQ.out]); have FU := Lib.hid (Fr0.trans FY.out hfu); clear hru du lu vu hfu)
            | (go_at_call 47; refine (times_any X.out X.out (digs_dig q) (digs_dig q) (by rw [L4.out]; omega) (by rw [L4.out]; omega)).mono ?_; rintro e wy ⟨yv, oy, rfl, hry, dy, ly, vy, hfy⟩; obtain ⟨Ay, cy, rfl, -⟩ := Rd.form hry; have Y := Lib.hid hry; have DY := Lib.hid dy; have LY := Lib.hid (show oy.length ≤ 100 by rw [ly, L4.out]; omega); have VY := Lib.hid (show val oy = q * q by rw [vy, HQ.out]); have FY := Lib.hid (Fr0.trans FX.out hfy); have X2 := Lib.hid ((X.out).fr0 hfy); clear hry dy ly vy hfy)
            | (go_at_call 48; refine (above_any U.out ((HM.out).fr0 (Fr0.trans F2.out FU.out)) DU.out HMD.out LU.out (by rw [HML.out]; omega)).mono ?_; rintro e wz ⟨he, rfl⟩; rw [(HLE.out) _ VU.out] at he; subst he; have FE := Lib.hid FU.out))
          go_roundw
          case measure => (first | (simp [intOf]; done) | (simp [intOf]; omega))
          case rel => exact ⟨j + 1, r, (b : Int) - 1, by omega, rfl, rfl, Lib.hid (by have := (HI.out).2.1; omega), Lib.hid HR3.out.symm, Fr0.trans F.out FE.out, Fr0.trans F2.out FE.out⟩
      · obtain rfl : j = 40 := by omega
        have hii := hi.out
        obtain rfl : i = -1 := by omega
        have HR := Lib.hid hr.out
        have F := Lib.hid hf
        clear hi hr hf hf2 hii hlt hj
        go_wp2_with fail
        go_ret
        exact ⟨by rw [← HR.out]; rfl, F.out⟩
end Go.Proofs.Ytjkcbklgddnbdaa
