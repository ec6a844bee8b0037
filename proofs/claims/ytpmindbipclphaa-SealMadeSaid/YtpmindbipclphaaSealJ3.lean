/- append onto a slice of the call's own: what was read there is read still. Conditions stand in the statements. -/
import Derived.Test.YtpmindbipclphaaSealJ2
import Derived.Deep.CutBlock
import Derived.Deep.DeepCutAuto
import Derived.Test.YtpmindbipclphaaShaRoot
import Derived.Test.YtpmindbipclphaaShaBlk0
import Derived.Outline
import Derived.Test.YtpmindbipclphaaShaSumLaw
import Derived.Deep.LoopGhost
import Derived.Test.YtpmindbipclphaaShaEq
import Derived.Test.YtpmindbipclphaaStepSl
import Derived.Test.YtpmindbipclphaaWLits
import Derived.Lib.SlBytesConst
import Derived.Test.YtpmindbipclphaaSealWord
import Derived.Test.YtpmindbipclphaaArgs
import Derived.Test.YtpmindbipclphaaArr
import Derived.ChangeSame
set_option linter.unusedSimpArgs false
namespace Go.Proofs.Ytpmindbipclphaa
open Go.RowKit

set_option maxHeartbeats 4000000 in
theorem above_any {a b : List Nat} {va vb : Value} {w : World} (ha : RdU w va a) (hb : RdU w vb b) (da : Dig a) (db : Dig b) (la : a.length ≤ 1000) (lb : b.length ≤ 1000) :
    Calls Try.prog 87 #[va, vb] w fun e w' => e = .returned (.bool (decide (val b < val a))) ∧ w = w' := by
  obtain ⟨Aa, ca, rfl, -, -, -⟩ := Rd.form ha
  obtain ⟨Ab, cb, rfl, -, -, -⟩ := Rd.form hb
  have DA := Lib.hid da
  have DB := Lib.hid db
  obtain ⟨na, hna⟩ : ∃ n, n = a.length := ⟨_, rfl⟩
  obtain ⟨nb, hnb⟩ : ∃ n, n = b.length := ⟨_, rfl⟩
  rw [← hna] at la ha ⊢
  rw [← hnb] at lb hb ⊢
  have HA := Lib.hid ha
  have HB := Lib.hid hb
  have HNA := Lib.hid hna
  have HNB := Lib.hid hnb
  have HG := Lib.hid (fun (i : Nat) (hi : i < 2000) (hj : ∀ j, i + 1 ≤ j → a.getD j 0 = b.getD j 0) (h : b.getD i 0 < a.getD i 0) => show decide (val b < val a) = true from decide_eq_true (val_gt db hi (by omega) (by omega) (fun j h1 _ => hj j h1) h))
  have HL := Lib.hid (fun (i : Nat) (hi : i < 2000) (hj : ∀ j, i + 1 ≤ j → a.getD j 0 = b.getD j 0) (h : a.getD i 0 < b.getD i 0) => show decide (val b < val a) = false from decide_eq_false (by have := val_gt (a := b) (b := a) da hi (by omega) (by omega) (fun j h1 _ => (hj j h1).symm) h; omega))
  have HE := Lib.hid (fun (hj : ∀ j, 0 ≤ j → a.getD j 0 = b.getD j 0) => show decide (val b < val a) = false from decide_eq_false (by have := val_same (a := a) (b := b) (n := 2000) (by omega) (by omega) (fun j _ => hj j (Nat.zero_le _)); omega))
  obtain ⟨R, hR⟩ : ∃ R, R = decide (val b < val a) := ⟨_, rfl⟩
  rw [← hR] at HG HL HE ⊢
  have HST := Lib.hid (fun (N : Nat) (h1 : na ≤ N) (h2 : nb ≤ N) (j : Nat) (hj : N ≤ j) => show a.getD j 0 = b.getD j 0 from by
    rw [show a.getD j 0 = 0 from by rw [List.getD_eq_getElem?_getD, List.getElem?_eq_none (by omega)]; rfl, show b.getD j 0 = 0 from by rw [List.getD_eq_getElem?_getD, List.getElem?_eq_none (by omega)]; rfl])
  have A0 := Lib.hid (fun (k : Nat) (h : ¬ k < na) => show a.getD k 0 = 0 from by rw [List.getD_eq_getElem?_getD, List.getElem?_eq_none (by omega)]; rfl)
  have B0 := Lib.hid (fun (k : Nat) (h : ¬ k < nb) => show b.getD k 0 = 0 from by rw [List.getD_eq_getElem?_getD, List.getElem?_eq_none (by omega)]; rfl)
  clear ha hb da db hna hnb hR
  go_enter Try.func87, Try.ntmps87
  go_wp2_with fail
  all_goals
    go_loop [5] (fun v5 => ∃ (m : Nat) (i : Int), v5 = .int .i64 i ∧ Hid (i + 1 = (m : Int)) ∧ m ≤ 1000 ∧ Hid (∀ j, m ≤ j → a.getD j 0 = b.getD j 0)) (fun v5 => (intOf v5 + 1).toNat)
    case atStart => first | exact ⟨nb, _, rfl, Lib.hid (by omega), by omega, Lib.hid ((HST.out) nb (by omega) (Nat.le_refl _))⟩ | exact ⟨na, _, rfl, Lib.hid (by omega), by omega, Lib.hid ((HST.out) na (Nat.le_refl _) (by omega))⟩
    case round =>
      obtain ⟨m, i, rfl, hi, hm, hj⟩ := hrel
      cases m with
      | zero =>
        have hi2 := hi.out
        obtain rfl : i = -1 := by omega
        have hR2 := Lib.hid ((HE.out) hj.out)
        clear hi hi2
        go_wp2_with fail
        go_ret
        exact ⟨by rw [hR2.out]; rfl, rfl⟩
      | succ k =>
        have hi2 := hi.out
        obtain rfl : i = (k : Int) := by omega
        clear hi hi2
        have i0 : (0 : Int) ≤ (k : Int) := by omega
        have HG2 := Lib.hid ((HG.out) k (by omega) hj.out)
        have HL2 := Lib.hid ((HL.out) k (by omega) hj.out)
        have HJ2 := Lib.hid (fun (h : a.getD k 0 = b.getD k 0) (j : Nat) (h1 : k ≤ j) => show a.getD j 0 = b.getD j 0 from by rcases Nat.eq_or_lt_of_le h1 with rfl | h2; exact h; exact hj.out j h2)
        have HA2 := Lib.hid (fun (h : k < na) => (HA.out).cell (i := k) (by rw [← HNA.out]; exact h))
        have HB2 := Lib.hid (fun (h : k < nb) => (HB.out).cell (i := k) (by rw [← HNB.out]; exact h))
        have A02 := Lib.hid ((A0.out) k)
        have B02 := Lib.hid ((B0.out) k)
        obtain ⟨x, hx⟩ : ∃ x, x = a.getD k 0 := ⟨_, rfl⟩
        obtain ⟨y, hy⟩ : ∃ y, y = b.getD k 0 := ⟨_, rfl⟩
        rw [← hx, ← hy] at HG2 HL2 HJ2
        rw [← hx] at HA2 A02
        rw [← hy] at HB2 B02
        clear hx hy
        by_cases ka : k < na
        · obtain ⟨ga, oa, rfl, -, dA⟩ := (HA2.out) ka
          have r1 : (k : Int) < (na : Int) := by omega
          have r2 : decide ((k : Int) < (na : Int)) = true := by simp; omega
          have r3 : decide (k < na) = true := by simpa using ka
          clear ka
          by_cases kb : k < nb
          · obtain ⟨gb, ob, rfl, -, dB⟩ := (HB2.out) kb
            have t1 : (k : Int) < (nb : Int) := by omega
            have t2 : decide ((k : Int) < (nb : Int)) = true := by (first | (simp; done) | (simp; omega))
            have t3 : decide (k < nb) = true := by simpa using kb
            clear kb
            rcases Nat.lt_trichotomy x y with hc | hc | hc
            ·
              have e1 : ((x : Int) != (y : Int)) = true := by (first | (simp; done) | (simp; omega))
              have e2 : ((x : Nat) != y) = true := by (first | (simp; done) | (simp; omega))
              have e3 : decide ((y : Int) < (x : Int)) = false := by (first | (simp; done) | (simp; omega))
              have e4 : decide ((y : Nat) < x) = false := by (first | (simp; done) | (simp; omega))
              have HRR := Lib.hid ((HL2.out) hc)
              clear hc
              go_wp2_with fail
              go_ret
              exact ⟨by rw [HRR.out]; rfl, rfl⟩
            ·
              subst hc
              go_wp2_with fail
              go_round
              case measure => (first | (simp [intOf]; done) | (simp [intOf]; omega))
              case rel => exact ⟨k, _, rfl, Lib.hid (by omega), by omega, Lib.hid ((HJ2.out) rfl)⟩
            ·
              have e1 : ((x : Int) != (y : Int)) = true := by (first | (simp; done) | (simp; omega))
              have e2 : ((x : Nat) != y) = true := by (first | (simp; done) | (simp; omega))
              have e3 : decide ((y : Int) < (x : Int)) = true := by (first | (simp; done) | (simp; omega))
              have e4 : decide ((y : Nat) < x) = true := by (first | (simp; done) | (simp; omega))
              have HRR := Lib.hid ((HG2.out) hc)
              clear hc
              go_wp2_with fail
              go_ret
              exact ⟨by rw [HRR.out]; rfl, rfl⟩
          · have hy0 := (B02.out) kb
            subst hy0
            have t2 : decide ((k : Int) < (nb : Int)) = false := by (first | (simp; done) | (simp; omega))
            have t3 : decide (k < nb) = false := by simpa using kb
            clear kb
            rcases Nat.lt_trichotomy x 0 with hc | hc | hc
            ·
              omega
            ·
              subst hc
              go_wp2_with fail
              go_round
              case measure => (first | (simp [intOf]; done) | (simp [intOf]; omega))
              case rel => exact ⟨k, _, rfl, Lib.hid (by omega), by omega, Lib.hid ((HJ2.out) rfl)⟩
            ·
              have e1 : ((x : Int) != (0 : Int)) = true := by (first | (simp; done) | (simp; omega))
              have e2 : ((x : Nat) != 0) = true := by (first | (simp; done) | (simp; omega))
              have e3 : decide ((0 : Int) < (x : Int)) = true := by (first | (simp; done) | (simp; omega))
              have e4 : decide ((0 : Nat) < x) = true := by (first | (simp; done) | (simp; omega))
              have HRR := Lib.hid ((HG2.out) hc)
              clear hc
              go_wp2_with fail
              go_ret
              exact ⟨by rw [HRR.out]; rfl, rfl⟩
        · have hx0 := (A02.out) ka
          subst hx0
          have r2 : decide ((k : Int) < (na : Int)) = false := by (first | (simp; done) | (simp; omega))
          have r3 : decide (k < na) = false := by simpa using ka
          clear ka
          by_cases kb : k < nb
          · obtain ⟨gb, ob, rfl, -, dB⟩ := (HB2.out) kb
            have t1 : (k : Int) < (nb : Int) := by omega
            have t2 : decide ((k : Int) < (nb : Int)) = true := by (first | (simp; done) | (simp; omega))
            have t3 : decide (k < nb) = true := by simpa using kb
            clear kb
            rcases Nat.lt_trichotomy 0 y with hc | hc | hc
            ·
              have e1 : ((0 : Int) != (y : Int)) = true := by (first | (simp; done) | (simp; omega))
              have e2 : ((0 : Nat) != y) = true := by (first | (simp; done) | (simp; omega))
              have e3 : decide ((y : Int) < (0 : Int)) = false := by (first | (simp; done) | (simp; omega))
              have e4 : decide ((y : Nat) < 0) = false := by (first | (simp; done) | (simp; omega))
              have HRR := Lib.hid ((HL2.out) hc)
              clear hc
              go_wp2_with fail
              go_ret
              exact ⟨by rw [HRR.out]; rfl, rfl⟩
            ·
              subst hc
              go_wp2_with fail
              go_round
              case measure => (first | (simp [intOf]; done) | (simp [intOf]; omega))
              case rel => exact ⟨k, _, rfl, Lib.hid (by omega), by omega, Lib.hid ((HJ2.out) rfl)⟩
            ·
              omega
          · have hy0 := (B02.out) kb
            subst hy0
            have t2 : decide ((k : Int) < (nb : Int)) = false := by (first | (simp; done) | (simp; omega))
            have t3 : decide (k < nb) = false := by simpa using kb
            clear kb
            go_wp2_with fail
            go_round
            case measure => (first | (simp [intOf]; done) | (simp [intOf]; omega))
            case rel => exact ⟨k, _, rfl, Lib.hid (by omega), by omega, Lib.hid ((HJ2.out) rfl)⟩
end Go.Proofs.Ytpmindbipclphaa
set_option linter.unusedSimpArgs false
namespace Go.Proofs.Ytpmindbipclphaa
open Go.RowKit

/-- The greatest number of 40 bits whose power is not above T, bit by bit. -/
def RC (f : Nat → Nat) (T : Nat) : Nat → Nat
  | 0 => 0
  | j + 1 => if f (RC f T j + 2 ^ (39 - j)) ≤ T then RC f T j + 2 ^ (39 - j) else RC f T j
theorem rc_le (f : Nat → Nat) (T : Nat) : ∀ j, j ≤ 40 → RC f T j + 2 ^ (40 - j) ≤ 1099511627776 := by
  intro j
  induction j with
  | zero => intro _; simp [RC]
  | succ j ih =>
    intro h
    have h1 := ih (by omega)
    have e : 2 ^ (40 - j) = 2 ^ (39 - j) + 2 ^ (39 - j) := by rw [show 40 - j = (39 - j) + 1 from by omega, Nat.pow_succ]; omega
    have p1 : 1 ≤ 2 ^ (39 - j) := Nat.one_le_two_pow
    rw [show 40 - (j + 1) = 39 - j from by omega]
    unfold RC
    split <;> omega
theorem wp_make_u {o : Oper} {a : Act} {w : World} {K : Act → World → Prop} {Q : Exit → Act → World → Prop} (x y : Operand) (ho : o.op = .makeSlice 122 x y) (n : Nat) (hx : a.eval x = .int .i64 (n : Int)) (hy : a.eval y = .int .i64 (n : Int)) (hn : n ≤ 1000)
    (h : ∀ g W1, Blk W1 g (ucells (List.replicate n 0)).toArray 22 → Fr0 w W1 → w.heap.size ≤ g → K (a.put o.dst (.slice (some ⟨g, 0, none⟩) n n)) W1) : Oper.wp Try.prog o a w K Q := by
  obtain ⟨i, hi, hz0, hz1, hz2⟩ := info_parts infoU64
  have hr := run_make (P := Try.prog) w 122 22 i _ Try.underlying122 hi hz0 .i64 .i64 (n : Int) (n : Int) (by omega) (Int.le_refl _) (by rw [hz2]; omega) (by omega)
  rw [Int.toNat_natCast, hz1, Nat.mul_one] at hr
  unfold Oper.wp execOp
  simp only [ho, hx, hy, Sem.run_bind, hr, Result.andThen_ok]
  refine h w.heap.size _ ?_ ((Fr0.refl w).alloc _) (Nat.le_refl _)
  have hb := Blk.new w (madeCells (Value.int .u64 0).cells n) 22
  rw [show (madeCells (Value.int .u64 0).cells n) = (ucells (List.replicate n 0)).toArray from by
    apply Array.toList_inj.1
    rw [show (Value.int .u64 0).cells = #[Value.int .u64 0] from rfl, toList_madeCells_one]
    simp [ucells]] at hb ⊢
  exact hb
theorem wp_append_u {o : Oper} {a : Act} {w0 w : World} {K : Act → World → Prop} {Q : Exit → Act → World → Prop} (s x : Operand) (ho : o.op = .call { callee := .builtin .append, args := #[s, x], argTypes := #[122, 122] }) (hf : Fr0 w0 w)
    {v v2 : Value} {l m : List Nat} (hown : w.ownsRow w0.heap.size 22 1 v l.length (ucells l)) (hs : a.eval s = v) (hr : RdU w v2 m) (hx : a.eval x = v2) (hl : l.length + m.length ≤ 1000)
    (h : ∀ A c w', w'.ownsRow w0.heap.size 22 1 (.slice A (l.length + m.length) c) (l.length + m.length) (ucells (l ++ m)) → Fr0 w0 w' → K (a.put o.dst (.slice A (l.length + m.length) c)) w') : Oper.wp Try.prog o a w K Q := by
  obtain ⟨i, hi, hz0, hz1, hz2⟩ := info_parts infoU64
  obtain ⟨A, c, w', hrun, hown', hf'⟩ := run_append_rd (P := Try.prog) hf 122 o.type 22 i _ 1 8 Try.underlying122 hi hz0 hz1 hz2 rfl (by decide) v l.length (ucells l) hown v2 m.length (ucells m) hr (ucells_one m) (by unfold maxLen; omega) (by omega)
  unfold Oper.wp execOp
  simp only [ho, resolve, invoke, builtin, Sem.run_bind, Sem.run_pure, Result.andThen_ok, List.map_toArray, List.map_cons, List.map_nil, hs, hx, hrun]
  exact h A c w' (by rw [ucells_app]; exact hown') hf'
set_option maxHeartbeats 4000000 in
set_option maxRecDepth 100000 in
theorem root2_any (n : Nat) (w : World) (hn : n < 4294967296) : Calls Try.prog 74 #[.int .u64 n, .bool false] w fun e w' => e = .returned (.int .u64 (RC (fun r => r * r) (n * 65536 ^ 4) 40 : Nat)) ∧ Fr0 w w' := by
  have HDG := Lib.hid (fun W => digits_any n W (by omega))
  obtain ⟨f, hf0⟩ : ∃ f : Nat → Nat, f = fun r => r * r := ⟨_, rfl⟩
  rw [← hf0]
  have HFF := Lib.hid (fun r => show f r = r * r by rw [hf0])
  have HMV := Lib.hid (show val (List.replicate 4 0 ++ digs n) = n * 65536 ^ 4 by rw [val_app, val_zeros, List.length_replicate, digs_val (by omega), Nat.zero_add, Nat.mul_comm])
  have HMD := Lib.hid (show Dig (List.replicate 4 0 ++ digs n) from fun x hx => by rcases List.mem_append.1 hx with h | h; exact dig_zeros _ x h; exact digs_dig n x h)
  have HML := Lib.hid (show (List.replicate 4 0 ++ digs n).length = 8 from rfl)
  obtain ⟨T, hT⟩ : ∃ T, T = n * 65536 ^ 4 := ⟨_, rfl⟩
  rw [← hT] at HMV ⊢
  clear hf0 hT
  go_enter Try.func74, Try.ntmps74
  go_upto_region 4 with (fail)
  go_cut [6] (fun s wx => ∃ A c, s = .slice A 8 c ∧ wx.ownsRow w.heap.size 22 1 (.slice A 8 c) 8 (ucells (List.replicate 4 0 ++ digs n)) ∧ Fr0 w wx)
  case first =>
    have FW := Lib.hid ((Fr0.refl w).drew)
    refine wp_region_held_drew (S := (fun _ => True)) (by kernel_rfl) trivial (fun hHeld => ?_)
    have _hI : True := trivial
    clear _hI
    refine takeH (i := 0) rfl (by kernel_rfl) (by kernel_rfl) (by kernel_rfl) (fun _ _ _ h => h) (yields_move rfl _ rfl) trivial ?_
    try simp only [Act.put, List.setIfInBounds_toArray, List.set_cons_zero, List.set_cons_succ]
    have _hI : True := trivial
    clear _hI
    refine takeH (i := 2) rfl (by kernel_rfl) (by kernel_rfl) (by kernel_rfl) (fun _ _ _ h => h) (yields_move rfl _ rfl) trivial ?_
    try simp only [Act.put, List.setIfInBounds_toArray, List.set_cons_zero, List.set_cons_succ]
    have _hI : True := trivial
    clear _hI
    refine wpAnyH_ready (rs := [1, 3]) (by kernel_rfl) (by simp) (consH rfl rfl (fun K hK => ?_) (consH rfl rfl (fun K hK => ?_) AllReadyH.nil))
    ·
      have _hI : True := trivial
      clear _hI
      refine wp_make_u (.tmp 12) (.tmp 12) rfl 4 rfl rfl (by decide) ?_
      intro g W1 hB hF hg
      have hgw := Nat.le_trans (FW.out).size hg
      replace FW := Lib.hid (Fr0.trans FW.out hF)
      have OM := Lib.hid (show W1.ownsRow w.heap.size 22 1 (.slice (some ⟨g, 0, none⟩) 4 4) 4 (ucells (List.replicate 4 0)) from own_of_block (size := 1) hB hgw (Nat.le_refl _) (by unfold maxLen; decide) rfl)
      have zg := hF.size
      clear hB hF
      refine hK.out _ _ trivial ?_
      clear hK
      try simp only [Act.put, List.setIfInBounds_toArray, List.set_cons_zero, List.set_cons_succ]
      have _hI : True := trivial
      clear _hI
      refine wpAnyH_ready (rs := [3]) (by kernel_rfl) (by simp) (consH rfl rfl (fun K hK => ?_) AllReadyH.nil)
      have _hI : True := trivial
      clear _hI
      go_simp
      refine (HDG.out _).mono ?_
      rintro e W2 ⟨dv, rfl, hrd, hf⟩
      have RD := Lib.hid hrd
      replace OM := Lib.hid (own_fr OM.out hf (fun _ _ h => h))
      replace FW := Lib.hid (Fr0.trans FW.out hf)
      have zc := hf.size
      clear hf hrd
      refine hK.out _ _ trivial ?_
      clear hK
      try simp only [Act.put, List.setIfInBounds_toArray, List.set_cons_zero, List.set_cons_succ]
      have _hI : True := trivial
      clear _hI
      refine wpAnyH_ready (rs := [4]) (by kernel_rfl) (by simp) (consH rfl rfl (fun K hK => ?_) AllReadyH.nil)
      have _hI : True := trivial
      clear _hI
      refine wp_append_u (.tmp 13) (.tmp 15) rfl FW.out (l := List.replicate 4 0) (m := digs n) OM.out rfl RD.out rfl (by show 4 + 4 ≤ 1000; omega) ?_
      intro A5 c5 w5 ho5 hf5
      refine hK.out _ _ trivial ?_
      clear hK
      try simp only [Act.put, List.setIfInBounds_toArray, List.set_cons_zero, List.set_cons_succ]
      have _hI : True := trivial
      clear _hI
      refine wpAnyH_ready (rs := [5]) (by kernel_rfl) (by simp) (consH rfl rfl (fun K hK => ?_) AllReadyH.nil)
      have _hI : True := trivial
      clear _hI
      go_simp
      refine hK.out _ _ trivial ?_
      clear hK
      try simp only [Act.put, List.setIfInBounds_toArray, List.set_cons_zero, List.set_cons_succ]
      refine wpAnyH_done (by kernel_rfl) ?_ _
      go_wp2_with fail
      go_meet
      exact ⟨A5, c5, rfl, ho5, hf5⟩
    ·
      have _hI : True := trivial
      clear _hI
      go_simp
      refine (HDG.out _).mono ?_
      rintro e W2 ⟨dv, rfl, hrd, hf⟩
      have RD := Lib.hid hrd
      replace FW := Lib.hid (Fr0.trans FW.out hf)
      have zc := hf.size
      clear hf hrd
      refine hK.out _ _ trivial ?_
      clear hK
      try simp only [Act.put, List.setIfInBounds_toArray, List.set_cons_zero, List.set_cons_succ]
      have _hI : True := trivial
      clear _hI
      refine wpAnyH_ready (rs := [1]) (by kernel_rfl) (by simp) (consH rfl rfl (fun K hK => ?_) AllReadyH.nil)
      have _hI : True := trivial
      clear _hI
      refine wp_make_u (.tmp 12) (.tmp 12) rfl 4 rfl rfl (by decide) ?_
      intro g W1 hB hF hg
      replace RD := Lib.hid ((RD.out).fr0 hF)
      have hgw := Nat.le_trans (FW.out).size hg
      replace FW := Lib.hid (Fr0.trans FW.out hF)
      have OM := Lib.hid (show W1.ownsRow w.heap.size 22 1 (.slice (some ⟨g, 0, none⟩) 4 4) 4 (ucells (List.replicate 4 0)) from own_of_block (size := 1) hB hgw (Nat.le_refl _) (by unfold maxLen; decide) rfl)
      have zg := hF.size
      clear hB hF
      refine hK.out _ _ trivial ?_
      clear hK
      try simp only [Act.put, List.setIfInBounds_toArray, List.set_cons_zero, List.set_cons_succ]
      have _hI : True := trivial
      clear _hI
      refine wpAnyH_ready (rs := [4]) (by kernel_rfl) (by simp) (consH rfl rfl (fun K hK => ?_) AllReadyH.nil)
      have _hI : True := trivial
      clear _hI
      refine wp_append_u (.tmp 13) (.tmp 15) rfl FW.out (l := List.replicate 4 0) (m := digs n) OM.out rfl RD.out rfl (by show 4 + 4 ≤ 1000; omega) ?_
      intro A5 c5 w5 ho5 hf5
      refine hK.out _ _ trivial ?_
      clear hK
      try simp only [Act.put, List.setIfInBounds_toArray, List.set_cons_zero, List.set_cons_succ]
      have _hI : True := trivial
      clear _hI
      refine wpAnyH_ready (rs := [5]) (by kernel_rfl) (by simp) (consH rfl rfl (fun K hK => ?_) AllReadyH.nil)
      have _hI : True := trivial
      clear _hI
      go_simp
      refine hK.out _ _ trivial ?_
      clear hK
      try simp only [Act.put, List.setIfInBounds_toArray, List.set_cons_zero, List.set_cons_succ]
      refine wpAnyH_done (by kernel_rfl) ?_ _
      go_wp2_with fail
      go_meet
      exact ⟨A5, c5, rfl, ho5, hf5⟩
  case rest =>
    obtain ⟨A, c, rfl, ho, hf⟩ := hcut
    have HM := Lib.hid (show RdU wc (.slice A 8 c) (List.replicate 4 0 ++ digs n) from Rd.of_own ho)
    have F0 := Lib.hid hf
    obtain ⟨most, hmost⟩ : ∃ l, l = List.replicate 4 0 ++ digs n := ⟨_, rfl⟩
    rw [← hmost] at HM HMV HMD HML
    clear ho hf hmost
    go_wp2_with fail
    go_loopw [7, 8] (fun v7 v8 wr => ∃ (j r : Nat) (i : Int), j ≤ 40 ∧ v7 = .int .u64 r ∧ v8 = .int .i64 i ∧ Hid (i + j = 39) ∧ Hid (r = RC f T j) ∧ Fr0 w wr ∧ Fr0 wc wr) (fun _ v8 _ => (intOf v8 + 1).toNat)
    case atStart => exact ⟨0, 0, 39, by omega, rfl, rfl, Lib.hid (by omega), Lib.hid rfl, F0.out, Fr0.refl _⟩
    case round =>
      obtain ⟨j, r, i, hj, rfl, rfl, hi, hr, hf, hf2⟩ := hrel
      by_cases hlt : j < 40
      · obtain ⟨b, hb⟩ : ∃ b, b = 39 - j := ⟨_, rfl⟩
        have hii := hi.out
        obtain rfl : i = (b : Int) := by omega
        have hrb := rc_le f T j (by omega)
        rw [← hr.out] at hrb
        have HRC := Lib.hid (show RC f T (j + 1) = if f (r + 2 ^ b) ≤ T then r + 2 ^ b else r by rw [hr.out, hb]; rfl)
        have hpb : r + 2 ^ b < 1099511627776 := by
          rw [show 40 - j = b + 1 from by omega, Nat.pow_succ] at hrb
          have : 1 ≤ 2 ^ b := Nat.one_le_two_pow
          omega
        obtain ⟨pb, hpe⟩ : ∃ x, x = 2 ^ b := ⟨_, rfl⟩
        rw [← hpe] at HRC hpb
        have ew : IntKind.u64.wrap ((2 : Int) ^ b) = (pb : Int) := by
          rw [hpe, Int.natCast_pow]
          show ((2 : Int) ^ b) % 18446744073709551616 = _
          have h1 : ((2 ^ b : Nat) : Int) = (2 : Int) ^ b := by rw [Int.natCast_pow]; rfl
          rw [← h1, ← hpe]
          have h2 : ((2 : Nat) : Int) ^ b = (pb : Int) := by rw [hpe, Int.natCast_pow]
          rw [h2]
          omega
        obtain ⟨q, hq⟩ : ∃ q, q = r + pb := ⟨_, rfl⟩
        have eq1 : (r : Int) + (pb : Int) = (q : Int) := by rw [hq]; omega
        rw [← hq] at HRC hpb
        have HDR := Lib.hid (fun W => digits_any q W (by omega))
        have hq2 : q < 18446744073709551616 := by omega
        have HQ := Lib.hid (show val (digs q) = q from digs_val hq2)
        have HFQ := Lib.hid ((HFF.out) q)
        have HI := Lib.hid (And.intro hlt (And.intro hii hb))
        have r0 : (0 : Int) ≤ (r : Int) := by omega
        have HRR := Lib.hid hr.out
        have HQE := Lib.hid hq
        have F := Lib.hid hf
        have F2 := Lib.hid hf2
        have L4 := Lib.hid (show (digs q).length = 4 from rfl)
        have hj39 : j ≤ 39 := by omega
        have b0 : (0 : Int) ≤ (b : Int) := by omega
        have b1 : (b : Int) ≤ 39 := by omega
        clear hi hii hr hf hf2 hrb hpe hq hlt hb hj
        by_cases hle : f q ≤ T
        · have HR3 := Lib.hid (show RC f T (j + 1) = q by rw [HRC.out, if_pos hle])
          have HLE := Lib.hid (show ∀ out, val out = f q → decide (val most < val out) = false from fun out h => decide_eq_false (by rw [h, HMV.out]; omega))
          clear hle
          go_wp2_with (first
            | (go_at_call 85; refine (HDR.out _).mono ?_; rintro e wx ⟨xv, rfl, hrx, hfx⟩; obtain ⟨Ax, cx, rfl, -⟩ := Rd.form hrx; have X := Lib.hid hrx; have FX := Lib.hid hfx; clear hrx hfx)
            | (go_at_call 86; refine (stimes_any X.out X.out (digs_dig q) (digs_dig q) (by rw [L4.out]; omega) (by rw [L4.out]; omega)).mono ?_; rintro e wy ⟨yv, oy, rfl, hry, dy, ly, vy, hfy⟩; obtain ⟨Ay, cy, rfl, -⟩ := Rd.form hry; have Y := Lib.hid hry; have DY := Lib.hid dy; have LY := Lib.hid (show oy.length ≤ 100 by rw [ly, L4.out]; omega); have VY := Lib.hid (show val oy = q * q by rw [vy, HQ.out]); have FY := Lib.hid (Fr0.trans FX.out hfy); have X2 := Lib.hid ((X.out).fr0 hfy); clear hry dy ly vy hfy)
            | (go_at_call 87; refine (above_any Y.out ((HM.out).fr0 (Fr0.trans F2.out FY.out)) DY.out HMD.out (Nat.le_trans LY.out (by decide)) (by rw [HML.out]; omega)).mono ?_; rintro e wz ⟨he, rfl⟩; rw [(HLE.out) _ (show val oy = f q by rw [HFQ.out]; exact VY.out)] at he; subst he; have FE := Lib.hid FY.out))
          go_roundw
          case measure => (first | (simp [intOf]; done) | (simp [intOf]; omega))
          case rel => exact ⟨j + 1, q, (b : Int) - 1, by omega, rfl, rfl, Lib.hid (by have := (HI.out).2.1; omega), Lib.hid HR3.out.symm, Fr0.trans F.out FE.out, Fr0.trans F2.out FE.out⟩
        · have HR3 := Lib.hid (show RC f T (j + 1) = r by rw [HRC.out, if_neg hle])
          have HLE := Lib.hid (show ∀ out, val out = f q → decide (val most < val out) = true from fun out h => decide_eq_true (by rw [h, HMV.out]; omega))
          clear hle
          go_wp2_with (first
            | (go_at_call 85; refine (HDR.out _).mono ?_; rintro e wx ⟨xv, rfl, hrx, hfx⟩; obtain ⟨Ax, cx, rfl, -⟩ := Rd.form hrx; have X := Lib.hid hrx; have FX := Lib.hid hfx; clear hrx hfx)
            | (go_at_call 86; refine (stimes_any X.out X.out (digs_dig q) (digs_dig q) (by rw [L4.out]; omega) (by rw [L4.out]; omega)).mono ?_; rintro e wy ⟨yv, oy, rfl, hry, dy, ly, vy, hfy⟩; obtain ⟨Ay, cy, rfl, -⟩ := Rd.form hry; have Y := Lib.hid hry; have DY := Lib.hid dy; have LY := Lib.hid (show oy.length ≤ 100 by rw [ly, L4.out]; omega); have VY := Lib.hid (show val oy = q * q by rw [vy, HQ.out]); have FY := Lib.hid (Fr0.trans FX.out hfy); have X2 := Lib.hid ((X.out).fr0 hfy); clear hry dy ly vy hfy)
            | (go_at_call 87; refine (above_any Y.out ((HM.out).fr0 (Fr0.trans F2.out FY.out)) DY.out HMD.out (Nat.le_trans LY.out (by decide)) (by rw [HML.out]; omega)).mono ?_; rintro e wz ⟨he, rfl⟩; rw [(HLE.out) _ (show val oy = f q by rw [HFQ.out]; exact VY.out)] at he; subst he; have FE := Lib.hid FY.out))
          go_roundw
          case measure => (first | (simp [intOf]; done) | (simp [intOf]; omega))
          case rel => exact ⟨j + 1, r, (b : Int) - 1, by omega, rfl, rfl, Lib.hid (by have := (HI.out).2.1; omega), Lib.hid HR3.out.symm, Fr0.trans F.out FE.out, Fr0.trans F2.out FE.out⟩
      · obtain rfl : j = 40 := by omega
        have hii := hi.out
        obtain rfl : i = -1 := by omega
        have HR := Lib.hid hr.out
        have F := Lib.hid hf
        clear hi hr hf hf2 hii hlt hj
        go_wp2_with fail
        go_ret
        exact ⟨by rw [← HR.out]; rfl, F.out⟩
set_option maxHeartbeats 4000000 in
set_option maxRecDepth 100000 in
theorem root3_any (n : Nat) (w : World) (hn : n < 4294967296) : Calls Try.prog 74 #[.int .u64 n, .bool true] w fun e w' => e = .returned (.int .u64 (RC (fun r => r * r * r) (n * 65536 ^ 6) 40 : Nat)) ∧ Fr0 w w' := by
  have HDG := Lib.hid (fun W => digits_any n W (by omega))
  obtain ⟨f, hf0⟩ : ∃ f : Nat → Nat, f = fun r => r * r * r := ⟨_, rfl⟩
  rw [← hf0]
  have HFF := Lib.hid (fun r => show f r = r * r * r by rw [hf0])
  have HMV := Lib.hid (show val (List.replicate 6 0 ++ digs n) = n * 65536 ^ 6 by rw [val_app, val_zeros, List.length_replicate, digs_val (by omega), Nat.zero_add, Nat.mul_comm])
  have HMD := Lib.hid (show Dig (List.replicate 6 0 ++ digs n) from fun x hx => by rcases List.mem_append.1 hx with h | h; exact dig_zeros _ x h; exact digs_dig n x h)
  have HML := Lib.hid (show (List.replicate 6 0 ++ digs n).length = 10 from rfl)
  obtain ⟨T, hT⟩ : ∃ T, T = n * 65536 ^ 6 := ⟨_, rfl⟩
  rw [← hT] at HMV ⊢
  clear hf0 hT
  go_enter Try.func74, Try.ntmps74
  go_upto_region 4 with (fail)
  go_cut [6] (fun s wx => ∃ A c, s = .slice A 10 c ∧ wx.ownsRow w.heap.size 22 1 (.slice A 10 c) 10 (ucells (List.replicate 6 0 ++ digs n)) ∧ Fr0 w wx)
  case first =>
    have FW := Lib.hid ((Fr0.refl w).drew)
    refine wp_region_held_drew (S := (fun _ => True)) (by kernel_rfl) trivial (fun hHeld => ?_)
    have _hI : True := trivial
    clear _hI
    refine takeH (i := 0) rfl (by kernel_rfl) (by kernel_rfl) (by kernel_rfl) (fun _ _ _ h => h) (yields_move rfl _ rfl) trivial ?_
    try simp only [Act.put, List.setIfInBounds_toArray, List.set_cons_zero, List.set_cons_succ]
    have _hI : True := trivial
    clear _hI
    refine takeH (i := 2) rfl (by kernel_rfl) (by kernel_rfl) (by kernel_rfl) (fun _ _ _ h => h) (yields_move rfl _ rfl) trivial ?_
    try simp only [Act.put, List.setIfInBounds_toArray, List.set_cons_zero, List.set_cons_succ]
    have _hI : True := trivial
    clear _hI
    refine wpAnyH_ready (rs := [1, 3]) (by kernel_rfl) (by simp) (consH rfl rfl (fun K hK => ?_) (consH rfl rfl (fun K hK => ?_) AllReadyH.nil))
    ·
      have _hI : True := trivial
      clear _hI
      refine wp_make_u (.tmp 12) (.tmp 12) rfl 6 rfl rfl (by decide) ?_
      intro g W1 hB hF hg
      have hgw := Nat.le_trans (FW.out).size hg
      replace FW := Lib.hid (Fr0.trans FW.out hF)
      have OM := Lib.hid (show W1.ownsRow w.heap.size 22 1 (.slice (some ⟨g, 0, none⟩) 6 6) 6 (ucells (List.replicate 6 0)) from own_of_block (size := 1) hB hgw (Nat.le_refl _) (by unfold maxLen; decide) rfl)
      have zg := hF.size
      clear hB hF
      refine hK.out _ _ trivial ?_
      clear hK
      try simp only [Act.put, List.setIfInBounds_toArray, List.set_cons_zero, List.set_cons_succ]
      have _hI : True := trivial
      clear _hI
      refine wpAnyH_ready (rs := [3]) (by kernel_rfl) (by simp) (consH rfl rfl (fun K hK => ?_) AllReadyH.nil)
      have _hI : True := trivial
      clear _hI
      go_simp
      refine (HDG.out _).mono ?_
      rintro e W2 ⟨dv, rfl, hrd, hf⟩
      have RD := Lib.hid hrd
      replace OM := Lib.hid (own_fr OM.out hf (fun _ _ h => h))
      replace FW := Lib.hid (Fr0.trans FW.out hf)
      have zc := hf.size
      clear hf hrd
      refine hK.out _ _ trivial ?_
      clear hK
      try simp only [Act.put, List.setIfInBounds_toArray, List.set_cons_zero, List.set_cons_succ]
      have _hI : True := trivial
      clear _hI
      refine wpAnyH_ready (rs := [4]) (by kernel_rfl) (by simp) (consH rfl rfl (fun K hK => ?_) AllReadyH.nil)
      have _hI : True := trivial
      clear _hI
      refine wp_append_u (.tmp 13) (.tmp 15) rfl FW.out (l := List.replicate 6 0) (m := digs n) OM.out rfl RD.out rfl (by show 6 + 4 ≤ 1000; omega) ?_
      intro A5 c5 w5 ho5 hf5
      refine hK.out _ _ trivial ?_
      clear hK
      try simp only [Act.put, List.setIfInBounds_toArray, List.set_cons_zero, List.set_cons_succ]
      have _hI : True := trivial
      clear _hI
      refine wpAnyH_ready (rs := [5]) (by kernel_rfl) (by simp) (consH rfl rfl (fun K hK => ?_) AllReadyH.nil)
      have _hI : True := trivial
      clear _hI
      go_simp
      refine hK.out _ _ trivial ?_
      clear hK
      try simp only [Act.put, List.setIfInBounds_toArray, List.set_cons_zero, List.set_cons_succ]
      refine wpAnyH_done (by kernel_rfl) ?_ _
      go_wp2_with fail
      go_meet
      exact ⟨A5, c5, rfl, ho5, hf5⟩
    ·
      have _hI : True := trivial
      clear _hI
      go_simp
      refine (HDG.out _).mono ?_
      rintro e W2 ⟨dv, rfl, hrd, hf⟩
      have RD := Lib.hid hrd
      replace FW := Lib.hid (Fr0.trans FW.out hf)
      have zc := hf.size
      clear hf hrd
      refine hK.out _ _ trivial ?_
      clear hK
      try simp only [Act.put, List.setIfInBounds_toArray, List.set_cons_zero, List.set_cons_succ]
      have _hI : True := trivial
      clear _hI
      refine wpAnyH_ready (rs := [1]) (by kernel_rfl) (by simp) (consH rfl rfl (fun K hK => ?_) AllReadyH.nil)
      have _hI : True := trivial
      clear _hI
      refine wp_make_u (.tmp 12) (.tmp 12) rfl 6 rfl rfl (by decide) ?_
      intro g W1 hB hF hg
      replace RD := Lib.hid ((RD.out).fr0 hF)
      have hgw := Nat.le_trans (FW.out).size hg
      replace FW := Lib.hid (Fr0.trans FW.out hF)
      have OM := Lib.hid (show W1.ownsRow w.heap.size 22 1 (.slice (some ⟨g, 0, none⟩) 6 6) 6 (ucells (List.replicate 6 0)) from own_of_block (size := 1) hB hgw (Nat.le_refl _) (by unfold maxLen; decide) rfl)
      have zg := hF.size
      clear hB hF
      refine hK.out _ _ trivial ?_
      clear hK
      try simp only [Act.put, List.setIfInBounds_toArray, List.set_cons_zero, List.set_cons_succ]
      have _hI : True := trivial
      clear _hI
      refine wpAnyH_ready (rs := [4]) (by kernel_rfl) (by simp) (consH rfl rfl (fun K hK => ?_) AllReadyH.nil)
      have _hI : True := trivial
      clear _hI
      refine wp_append_u (.tmp 13) (.tmp 15) rfl FW.out (l := List.replicate 6 0) (m := digs n) OM.out rfl RD.out rfl (by show 6 + 4 ≤ 1000; omega) ?_
      intro A5 c5 w5 ho5 hf5
      refine hK.out _ _ trivial ?_
      clear hK
      try simp only [Act.put, List.setIfInBounds_toArray, List.set_cons_zero, List.set_cons_succ]
      have _hI : True := trivial
      clear _hI
      refine wpAnyH_ready (rs := [5]) (by kernel_rfl) (by simp) (consH rfl rfl (fun K hK => ?_) AllReadyH.nil)
      have _hI : True := trivial
      clear _hI
      go_simp
      refine hK.out _ _ trivial ?_
      clear hK
      try simp only [Act.put, List.setIfInBounds_toArray, List.set_cons_zero, List.set_cons_succ]
      refine wpAnyH_done (by kernel_rfl) ?_ _
      go_wp2_with fail
      go_meet
      exact ⟨A5, c5, rfl, ho5, hf5⟩
  case rest =>
    obtain ⟨A, c, rfl, ho, hf⟩ := hcut
    have HM := Lib.hid (show RdU wc (.slice A 10 c) (List.replicate 6 0 ++ digs n) from Rd.of_own ho)
    have F0 := Lib.hid hf
    obtain ⟨most, hmost⟩ : ∃ l, l = List.replicate 6 0 ++ digs n := ⟨_, rfl⟩
    rw [← hmost] at HM HMV HMD HML
    clear ho hf hmost
    go_wp2_with fail
    go_loopw [7, 8] (fun v7 v8 wr => ∃ (j r : Nat) (i : Int), j ≤ 40 ∧ v7 = .int .u64 r ∧ v8 = .int .i64 i ∧ Hid (i + j = 39) ∧ Hid (r = RC f T j) ∧ Fr0 w wr ∧ Fr0 wc wr) (fun _ v8 _ => (intOf v8 + 1).toNat)
    case atStart => exact ⟨0, 0, 39, by omega, rfl, rfl, Lib.hid (by omega), Lib.hid rfl, F0.out, Fr0.refl _⟩
    case round =>
      obtain ⟨j, r, i, hj, rfl, rfl, hi, hr, hf, hf2⟩ := hrel
      by_cases hlt : j < 40
      · obtain ⟨b, hb⟩ : ∃ b, b = 39 - j := ⟨_, rfl⟩
        have hii := hi.out
        obtain rfl : i = (b : Int) := by omega
        have hrb := rc_le f T j (by omega)
        rw [← hr.out] at hrb
        have HRC := Lib.hid (show RC f T (j + 1) = if f (r + 2 ^ b) ≤ T then r + 2 ^ b else r by rw [hr.out, hb]; rfl)
        have hpb : r + 2 ^ b < 1099511627776 := by
          rw [show 40 - j = b + 1 from by omega, Nat.pow_succ] at hrb
          have : 1 ≤ 2 ^ b := Nat.one_le_two_pow
          omega
        obtain ⟨pb, hpe⟩ : ∃ x, x = 2 ^ b := ⟨_, rfl⟩
        rw [← hpe] at HRC hpb
        have ew : IntKind.u64.wrap ((2 : Int) ^ b) = (pb : Int) := by
          rw [hpe, Int.natCast_pow]
          show ((2 : Int) ^ b) % 18446744073709551616 = _
          have h1 : ((2 ^ b : Nat) : Int) = (2 : Int) ^ b := by rw [Int.natCast_pow]; rfl
          rw [← h1, ← hpe]
          have h2 : ((2 : Nat) : Int) ^ b = (pb : Int) := by rw [hpe, Int.natCast_pow]
          rw [h2]
          omega
        obtain ⟨q, hq⟩ : ∃ q, q = r + pb := ⟨_, rfl⟩
        have eq1 : (r : Int) + (pb : Int) = (q : Int) := by rw [hq]; omega
        rw [← hq] at HRC hpb
        have HDR := Lib.hid (fun W => digits_any q W (by omega))
        have hq2 : q < 18446744073709551616 := by omega
        have HQ := Lib.hid (show val (digs q) = q from digs_val hq2)
        have HFQ := Lib.hid ((HFF.out) q)
        have HI := Lib.hid (And.intro hlt (And.intro hii hb))
        have r0 : (0 : Int) ≤ (r : Int) := by omega
        have HRR := Lib.hid hr.out
        have HQE := Lib.hid hq
        have F := Lib.hid hf
        have F2 := Lib.hid hf2
        have L4 := Lib.hid (show (digs q).length = 4 from rfl)
        have hj39 : j ≤ 39 := by omega
        have b0 : (0 : Int) ≤ (b : Int) := by omega
        have b1 : (b : Int) ≤ 39 := by omega
        clear hi hii hr hf hf2 hrb hpe hq hlt hb hj
        by_cases hle : f q ≤ T
        · have HR3 := Lib.hid (show RC f T (j + 1) = q by rw [HRC.out, if_pos hle])
          have HLE := Lib.hid (show ∀ out, val out = f q → decide (val most < val out) = false from fun out h => decide_eq_false (by rw [h, HMV.out]; omega))
          clear hle
          go_wp2_with (first
            | (go_at_call 85; refine (HDR.out _).mono ?_; rintro e wx ⟨xv, rfl, hrx, hfx⟩; obtain ⟨Ax, cx, rfl, -⟩ := Rd.form hrx; have X := Lib.hid hrx; have FX := Lib.hid hfx; clear hrx hfx)
            | (have _q := Y; go_at_call 86; refine (stimes_any Y.out X2.out DY.out (digs_dig q) LY.out (by rw [L4.out]; omega)).mono ?_; rintro e wu ⟨uv, ou, rfl, hru, du, lu, vu, hfu⟩; obtain ⟨Au, cu, rfl, -⟩ := Rd.form hru; have U := Lib.hid hru; have DU := Lib.hid du; have LU := Lib.hid (show ou.length ≤ 1000 by rw [lu, L4.out]; have := LY.out; omega); have VU := Lib.hid (show val ou = f q by rw [vu, HQ.out, VY.out, HFQ.out]); have FU := Lib.hid (Fr0.trans FY.out hfu); clear hru du lu vu hfu)
            | (go_at_call 86; refine (stimes_any X.out X.out (digs_dig q) (digs_dig q) (by rw [L4.out]; omega) (by rw [L4.out]; omega)).mono ?_; rintro e wy ⟨yv, oy, rfl, hry, dy, ly, vy, hfy⟩; obtain ⟨Ay, cy, rfl, -⟩ := Rd.form hry; have Y := Lib.hid hry; have DY := Lib.hid dy; have LY := Lib.hid (show oy.length ≤ 100 by rw [ly, L4.out]; omega); have VY := Lib.hid (show val oy = q * q by rw [vy, HQ.out]); have FY := Lib.hid (Fr0.trans FX.out hfy); have X2 := Lib.hid ((X.out).fr0 hfy); clear hry dy ly vy hfy)
            | (go_at_call 87; refine (above_any U.out ((HM.out).fr0 (Fr0.trans F2.out FU.out)) DU.out HMD.out LU.out (by rw [HML.out]; omega)).mono ?_; rintro e wz ⟨he, rfl⟩; rw [(HLE.out) _ VU.out] at he; subst he; have FE := Lib.hid FU.out))
          go_roundw
          case measure => (first | (simp [intOf]; done) | (simp [intOf]; omega))
          case rel => exact ⟨j + 1, q, (b : Int) - 1, by omega, rfl, rfl, Lib.hid (by have := (HI.out).2.1; omega), Lib.hid HR3.out.symm, Fr0.trans F.out FE.out, Fr0.trans F2.out FE.out⟩
        · have HR3 := Lib.hid (show RC f T (j + 1) = r by rw [HRC.out, if_neg hle])
          have HLE := Lib.hid (show ∀ out, val out = f q → decide (val most < val out) = true from fun out h => decide_eq_true (by rw [h, HMV.out]; omega))
          clear hle
          go_wp2_with (first
            | (go_at_call 85; refine (HDR.out _).mono ?_; rintro e wx ⟨xv, rfl, hrx, hfx⟩; obtain ⟨Ax, cx, rfl, -⟩ := Rd.form hrx; have X := Lib.hid hrx; have FX := Lib.hid hfx; clear hrx hfx)
            | (have _q := Y; go_at_call 86; refine (stimes_any Y.out X2.out DY.out (digs_dig q) LY.out (by rw [L4.out]; omega)).mono ?_; rintro e wu ⟨uv, ou, rfl, hru, du, lu, vu, hfu⟩; obtain ⟨Au, cu, rfl, -⟩ := Rd.form hru; have U := Lib.hid hru; have DU := Lib.hid du; have LU := Lib.hid (show ou.length ≤ 1000 by rw [lu, L4.out]; have := LY.out; omega); have VU := Lib.hid (show val ou = f q by rw [vu, HQ.out, VY.out, HFQ.out]); have FU := Lib.hid (Fr0.trans FY.out hfu); clear hru du lu vu hfu)
            | (go_at_call 86; refine (stimes_any X.out X.out (digs_dig q) (digs_dig q) (by rw [L4.out]; omega) (by rw [L4.out]; omega)).mono ?_; rintro e wy ⟨yv, oy, rfl, hry, dy, ly, vy, hfy⟩; obtain ⟨Ay, cy, rfl, -⟩ := Rd.form hry; have Y := Lib.hid hry; have DY := Lib.hid dy; have LY := Lib.hid (show oy.length ≤ 100 by rw [ly, L4.out]; omega); have VY := Lib.hid (show val oy = q * q by rw [vy, HQ.out]); have FY := Lib.hid (Fr0.trans FX.out hfy); have X2 := Lib.hid ((X.out).fr0 hfy); clear hry dy ly vy hfy)
            | (go_at_call 87; refine (above_any U.out ((HM.out).fr0 (Fr0.trans F2.out FU.out)) DU.out HMD.out LU.out (by rw [HML.out]; omega)).mono ?_; rintro e wz ⟨he, rfl⟩; rw [(HLE.out) _ VU.out] at he; subst he; have FE := Lib.hid FU.out))
          go_roundw
          case measure => (first | (simp [intOf]; done) | (simp [intOf]; omega))
          case rel => exact ⟨j + 1, r, (b : Int) - 1, by omega, rfl, rfl, Lib.hid (by have := (HI.out).2.1; omega), Lib.hid HR3.out.symm, Fr0.trans F.out FE.out, Fr0.trans F2.out FE.out⟩
      · obtain rfl : j = 40 := by omega
        have hii := hi.out
        obtain rfl : i = -1 := by omega
        have HR := Lib.hid hr.out
        have F := Lib.hid hf
        clear hi hr hf hf2 hii hlt hj
        go_wp2_with fail
        go_ret
        exact ⟨by rw [← HR.out]; rfl, F.out⟩
end Go.Proofs.Ytpmindbipclphaa
set_option linter.unusedSimpArgs false
namespace Go.Proofs.Ytpmindbipclphaa
open Go.RowKit

theorem rc_start : ∀ k, k < 8 → RC (fun r => r * r) (pt (k + 1) * 65536 ^ 4) 40 % 4294967296 = startN k := by decide +kernel
theorem rc_turn : ∀ k, k < 64 → RC (fun r => r * r * r) (pt (k + 1) * 65536 ^ 6) 40 % 4294967296 = turnN k := by decide +kernel
theorem pt_small : ∀ k, k < 64 → pt (k + 1) < 4294967296 := by decide +kernel
theorem startI_at (k : Nat) (h : k ≤ 7) : startI (k : Int) = (startN k : Int) := by unfold startI; rw [if_pos (by omega)]; rfl
theorem turnI_at (k : Nat) (h : k ≤ 63) : turnI (k : Int) = (turnN k : Int) := by unfold turnI; rw [if_pos (by omega)]; rfl
theorem startI_out (k : Int) (h : k < 0 ∨ 7 < k) : startI k = 0 := by unfold startI; rw [if_neg (by omega)]
theorem turnI_out (k : Int) (h : k < 0 ∨ 63 < k) : turnI k = 0 := by unfold turnI; rw [if_neg (by omega)]
set_option maxHeartbeats 1000000 in
theorem rstart_any (k : Int) (w : World) : Calls Try.prog 58 #[.int .i64 k] w fun e w' => e = .returned (.int .u32 (startI k)) ∧ Fr0 w w' := by
  by_cases h0 : k < 0
  · have HE := Lib.hid (startI_out k (.inl h0))
    have q0 : decide (k < 0) = true := by simpa using h0
    clear h0
    go_enter Try.func58, Try.ntmps58
    go_wp2_with fail
    go_ret
    exact ⟨by rw [HE.out]; rfl, Fr0.refl _⟩
  · by_cases h7 : 7 < k
    · have HE := Lib.hid (startI_out k (.inr h7))
      have q0 : decide (k < 0) = false := by simpa using h0
      have q1 : decide (7 < k) = true := by simpa using h7
      clear h0 h7
      go_enter Try.func58, Try.ntmps58
      go_wp2_with fail
      go_ret
      exact ⟨by rw [HE.out]; rfl, Fr0.refl _⟩
    · obtain ⟨K, rfl⟩ : ∃ K : Nat, k = K := ⟨k.toNat, by omega⟩
      have hK : K ≤ 7 := by omega
      have HP := Lib.hid (rprime_any K w (by omega))
      have HRT := Lib.hid (fun W => root2_any (pt (K + 1)) W (pt_small K (by omega)))
      have HRC := Lib.hid (rc_start K (by omega))
      have HE := Lib.hid (startI_at K hK)
      obtain ⟨pk, hpk⟩ : ∃ p, p = pt (K + 1) := ⟨_, rfl⟩
      rw [← hpk] at HP HRT HRC
      obtain ⟨R, hR⟩ : ∃ R, R = RC (fun r => r * r) (pk * 65536 ^ 4) 40 := ⟨_, rfl⟩
      rw [← hR] at HRT HRC
      have em : (R : Int) % 4294967296 = ((R % 4294967296 : Nat) : Int) := by omega
      rw [HRC.out] at em
      have hlt : startN K < 4294967296 := by rw [← HRC.out]; exact Nat.mod_lt _ (by decide)
      obtain ⟨s, hs⟩ : ∃ s, s = startN K := ⟨_, rfl⟩
      rw [← hs] at em hlt HE
      have q0 : decide ((K : Int) < 0) = false := by simp
      have q1 : decide (7 < (K : Int)) = false := by simp; omega
      have q2 : decide (7 < K) = false := by simp; omega
      clear h0 h7 hpk hR hs HRC
      go_enter Try.func58, Try.ntmps58
      go_wp2_with (first
        | (go_at_call 75; refine (HP.out).mono ?_; rintro e w' ⟨rfl, rfl⟩)
        | (go_at_call 74; refine (HRT.out _).mono ?_; rintro e w2 ⟨rfl, hf⟩; have F := Lib.hid hf; clear hf))
      go_ret
      exact ⟨by rw [HE.out]; rfl, F.out⟩
set_option maxHeartbeats 1000000 in
theorem rturn_any (k : Int) (w : World) : Calls Try.prog 76 #[.int .i64 k] w fun e w' => e = .returned (.int .u32 (turnI k)) ∧ Fr0 w w' := by
  by_cases h0 : k < 0
  · have HE := Lib.hid (turnI_out k (.inl h0))
    have q0 : decide (k < 0) = true := by simpa using h0
    clear h0
    go_enter Try.func76, Try.ntmps76
    go_wp2_with fail
    go_ret
    exact ⟨by rw [HE.out]; rfl, Fr0.refl _⟩
  · by_cases h7 : 63 < k
    · have HE := Lib.hid (turnI_out k (.inr h7))
      have q0 : decide (k < 0) = false := by simpa using h0
      have q1 : decide (63 < k) = true := by simpa using h7
      clear h0 h7
      go_enter Try.func76, Try.ntmps76
      go_wp2_with fail
      go_ret
      exact ⟨by rw [HE.out]; rfl, Fr0.refl _⟩
    · obtain ⟨K, rfl⟩ : ∃ K : Nat, k = K := ⟨k.toNat, by omega⟩
      have hK : K ≤ 63 := by omega
      have HP := Lib.hid (rprime_any K w (by omega))
      have HRT := Lib.hid (fun W => root3_any (pt (K + 1)) W (pt_small K (by omega)))
      have HRC := Lib.hid (rc_turn K (by omega))
      have HE := Lib.hid (turnI_at K hK)
      obtain ⟨pk, hpk⟩ : ∃ p, p = pt (K + 1) := ⟨_, rfl⟩
      rw [← hpk] at HP HRT HRC
      obtain ⟨R, hR⟩ : ∃ R, R = RC (fun r => r * r * r) (pk * 65536 ^ 6) 40 := ⟨_, rfl⟩
      rw [← hR] at HRT HRC
      have em : (R : Int) % 4294967296 = ((R % 4294967296 : Nat) : Int) := by omega
      rw [HRC.out] at em
      have hlt : turnN K < 4294967296 := by rw [← HRC.out]; exact Nat.mod_lt _ (by decide)
      obtain ⟨s, hs⟩ : ∃ s, s = turnN K := ⟨_, rfl⟩
      rw [← hs] at em hlt HE
      have q0 : decide ((K : Int) < 0) = false := by simp
      have q1 : decide (63 < (K : Int)) = false := by simp; omega
      have q2 : decide (63 < K) = false := by simp; omega
      clear h0 h7 hpk hR hs HRC
      go_enter Try.func76, Try.ntmps76
      go_wp2_with (first
        | (go_at_call 75; refine (HP.out).mono ?_; rintro e w' ⟨rfl, rfl⟩)
        | (go_at_call 74; refine (HRT.out _).mono ?_; rintro e w2 ⟨rfl, hf⟩; have F := Lib.hid hf; clear hf))
      go_ret
      exact ⟨by rw [HE.out]; rfl, F.out⟩
end Go.Proofs.Ytpmindbipclphaa
set_option linter.unusedSimpArgs false
namespace Go.Proofs.Ytpmindbipclphaa
open Go.RowKit

theorem rrot_any (x a : Nat) (w : World) (hx : x < 4294967296) (h1 : 1 ≤ a) (h2 : a ≤ 31) : Calls Try.prog 77 #[.int .u32 x, .int .i64 a] w fun e w' => e = .returned (.int .u32 (rotr x a : Nat)) ∧ w = w' := by
  obtain ⟨s, hs⟩ : ∃ s, s = 32 - a := ⟨_, rfl⟩
  have e1 : (32 : Int) - (a : Int) = (s : Int) := by omega
  have s1 : 1 ≤ s := by omega
  have s2 : s ≤ 31 := by omega
  have HR := Lib.hid (show bits .or .u32 ((x : Int) / 2 ^ a) ((x : Int) * 2 ^ s % 4294967296) = ((rotr x a : Nat) : Int) by
    have e1 : (x : Int) * 2 ^ s % 4294967296 = ((x * 2 ^ s % 4294967296 : Nat) : Int) := by rw [Int.natCast_emod, Int.natCast_mul, Int.natCast_pow]; rfl
    have e2 : (x : Int) / 2 ^ a = ((x / 2 ^ a : Nat) : Int) := by rw [Int.natCast_ediv, Int.natCast_pow]; rfl
    rw [e1, e2]
    have h := u32_or_nat (x / 2 ^ a) (x * 2 ^ s % 4294967296) (Nat.lt_of_le_of_lt (Nat.div_le_self _ _) hx) (Nat.mod_lt _ (by decide))
    refine h.trans ?_
    unfold rotr
    rw [hs, Nat.or_comm])
  clear hs
  go_enter Try.func77, Try.ntmps77
  go_wp2_with fail
  go_ret
  exact ⟨by rw [← HR.out]; rfl, rfl⟩
set_option maxHeartbeats 1000000 in
set_option maxRecDepth 10000 in
theorem rturns_any (w : World) : Calls Try.prog 59 #[] w fun e w' => e = .returned (.agg (wA 64 turnL)) ∧ Fr0 w w' := by
  go_enter Try.func59, Try.ntmps59
  go_wp2_with fail
  go_loopw [2] (fun v3 wr => ∃ k : Nat, k ≤ 64 ∧ v3 = .int .i64 k ∧ Fr0 w wr ∧ Blk wr (w.heap.size + 1) (wA 64 (turnL.take k)) 91 ∧ Blk wr w.heap.size (wA 64 []) 91) (fun v3 _ => 64 - (intOf v3).toNat)
  case atStart =>
    refine ⟨0, Nat.zero_le _, rfl, ((Fr0.refl _).alloc _).alloc _, ?_, ?_⟩
    · have h := Blk.new (w.alloc (.cells (wA 64 []) 91)) (wA 64 []) 91
      rw [show (w.alloc (.cells (wA 64 []) 91)).heap.size = w.heap.size + 1 from Array.size_push _] at h
      exact h
    · exact (Blk.new w (wA 64 []) 91).alloc _
  case round =>
    obtain ⟨k, hk, rfl, hf, hb, hz⟩ := hrel
    by_cases hlt : k < 64
    · have F2 := Lib.hid hf
      have B2 := Lib.hid hb
      have Z2 := Lib.hid hz
      have HT := Lib.hid (fun W => rturn_any (k : Int) W)
      have e1 : turnI k = (turnN k : Int) := turnI_at k (by omega)
      rw [e1] at HT
      have i0 : (0 : Int) ≤ (k : Int) := by omega
      have i1 : (k : Int) < 64 := by omega
      clear hf hb hz e1
      go_wp2_with (go_at_call 76; refine (HT.out _).mono ?_; rintro e w5 ⟨rfl, hf⟩; have F5 := Lib.hid (Fr0.trans F2.out hf); have B5 := Lib.hid ((B2.out).fr0 hf); have Z5 := Lib.hid ((Z2.out).fr0 hf); have c1 := (B5.out).cell k (wA_at hlt); have g1 := (B5.out).free k; clear hf)
      go_roundw
      case measure => simp [intOf]; omega
      case rel =>
        have hB := (B5.out).set k (.int .u32 (turnN k : Int))
        have hl : (turnL.take k).length = k := by rw [List.length_take, turnL_len]; omega
        have hp := wA_push (n := 64) (l := turnL.take k) (by omega) (turnN k)
        rw [hl] at hp
        rw [hp, ← turnL_at hlt] at hB
        exact ⟨k + 1, by omega, by go_num, Fr.setCell (p := ⟨w.heap.size + 1, k, none⟩) F5.out (.inr (by show w.heap.size ≤ w.heap.size + 1; omega)) _, hB, (Z5.out).other (by show w.heap.size ≠ w.heap.size + 1; omega) _⟩
    · obtain rfl : k = 64 := by omega
      clear hlt hk
      have hl : turnL.take 64 = turnL := List.take_of_length_le (Nat.le_of_eq turnL_len)
      rw [hl] at hb
      have hi : (Try.prog.info? 91).map (·.size) = some (wA 64 turnL).size := by rw [wA_size (Nat.le_of_eq turnL_len)]; kernel_rfl
      have ho : (wA 64 []).size = (wA 64 turnL).size := by rw [wA_size (l := turnL) (Nat.le_of_eq turnL_len), wA_size (l := []) (Nat.zero_le _)]
      have h1 := wA_one 64 turnL
      obtain ⟨cs, hcs⟩ : ∃ cs, cs = wA 64 turnL := ⟨_, rfl⟩
      rw [← hcs] at hb hi ho h1
      obtain ⟨zs, hzs⟩ : ∃ zs, zs = wA 64 [] := ⟨_, rfl⟩
      rw [← hzs] at hz ho
      have HCS := Lib.hid hcs
      clear hcs hzs hl
      repeat (first
        | refine wpList_load_row rfl 91 _ rfl (w.heap.size + 1) rfl 91 _ (0, 0) _ hb Try.underlying91 rfl hi ?_
        | refine wpList_store_row rfl 91 _ _ rfl w.heap.size cs rfl rfl 91 _ hz hi ho h1 ?_
        | go_values | go_skip | go_step)
      refine bodyPost_ret (v := .agg cs) (results_cell_row rfl _ _ w.heap.size 91 cs (0, 0) _ rfl (hz.setRow cs) Try.underlying91 rfl hi) rfl ⟨by rw [HCS.out], Fr.setRow hf (.inr (Nat.le_refl _)) cs⟩
end Go.Proofs.Ytpmindbipclphaa
set_option linter.unusedSimpArgs false
namespace Go.Proofs.Ytpmindbipclphaa
open Go.RowKit

theorem Fr0.setNew3 {w w1 : World} (h : Fr0 w w1) (k : Nat) (u : Value) : Fr0 w (w1.setCell ⟨w.heap.size + 1 + 1 + 1, k, none⟩ u) := Fr.setCell (p := ⟨w.heap.size + 1 + 1 + 1, k, none⟩) h (.inr (by show w.heap.size ≤ w.heap.size + 1 + 1 + 1; omega)) u
set_option maxHeartbeats 8000000 in
set_option maxRecDepth 100000 in
theorem rblock_any {x : H8} {g off c : Nat} {d : List UInt8} {w : World} (hx : x.ok) (h : RdB w (.slice (some ⟨g, off, none⟩) 64 c) d) (hd : d.length = 64) :
    Calls Try.prog 60 #[.agg (h8c x), .slice (some ⟨g, off, none⟩) 64 c, .agg (wA 64 turnL)] w fun e w' => e = .returned (.agg (h8c (takeN x d turnL))) ∧ Fr0 w w' := by
  have HX := Lib.hid hx
  have HD := Lib.hid hd
  have HR := Lib.hid (show RdB w (.slice (some ⟨g, off, none⟩) d.length c) d by rw [hd]; exact h)
  obtain ⟨xs, hxs⟩ : ∃ xs, xs = h8c x := ⟨_, rfl⟩
  obtain ⟨kA, hkA⟩ : ∃ kA, kA = wA 64 turnL := ⟨_, rfl⟩
  rw [← hxs, ← hkA]
  have HXS := Lib.hid hxs
  have HKA := Lib.hid hkA
  have N1 := Lib.hid (Blk.new w xs 89)
  have N2 := Lib.hid (show Blk ((w.alloc (.cells xs 89)).alloc (.cells kA 91)) (w.heap.size + 1) kA 91 from by
    have h := Blk.new (w.alloc (.cells xs 89)) kA 91
    rw [show (w.alloc (.cells xs 89)).heap.size = w.heap.size + 1 from Array.size_push _] at h
    exact h)
  have N3 := Lib.hid (show Blk (((w.alloc (.cells xs 89)).alloc (.cells kA 91)).alloc (.cells (wA 8 []) 89)) (w.heap.size + 1 + 1) (wA 8 []) 89 from by
    have h := Blk.new ((w.alloc (.cells xs 89)).alloc (.cells kA 91)) (wA 8 []) 89
    rw [show ((w.alloc (.cells xs 89)).alloc (.cells kA 91)).heap.size = w.heap.size + 1 + 1 from by simp] at h
    exact h)
  have N4 := Lib.hid (show Blk ((((w.alloc (.cells xs 89)).alloc (.cells kA 91)).alloc (.cells (wA 8 []) 89)).alloc (.cells (wA 64 []) 91)) (w.heap.size + 1 + 1 + 1) (wA 64 []) 91 from by
    have h := Blk.new (((w.alloc (.cells xs 89)).alloc (.cells kA 91)).alloc (.cells (wA 8 []) 89)) (wA 64 []) 91
    rw [show (((w.alloc (.cells xs 89)).alloc (.cells kA 91)).alloc (.cells (wA 8 []) 89)).heap.size = w.heap.size + 1 + 1 + 1 from by simp] at h
    exact h)
  clear hx h hd hxs hkA
  go_enter Try.func60, Try.ntmps60
  go_wp2_with fail
  go_loopw [8] (fun v8 wr => ∃ k : Nat, k ≤ 64 ∧ v8 = .int .i64 k ∧ Fr0 w wr ∧ Blk wr w.heap.size xs 89 ∧ Blk wr (w.heap.size + 1) kA 91 ∧ Blk wr (w.heap.size + 1 + 1) (wA 8 []) 89 ∧ Blk wr (w.heap.size + 1 + 1 + 1) (wA 64 (spW d k)) 91) (fun v8 _ => 64 - (intOf v8).toNat)
  case atStart => exact ⟨0, Nat.zero_le _, rfl, ((((Fr0.refl w).alloc _).alloc _).alloc _).alloc _, (((N1.out).alloc _).alloc _).alloc _, ((N2.out).alloc _).alloc _, (N3.out).alloc _, N4.out⟩
  case round =>
    obtain ⟨k, hk, rfl, hf, hb1, hb2, hb3, hb⟩ := hrel
    by_cases hlt : k < 64
    · have F2 := Lib.hid hf
      have B2 := Lib.hid hb
      have C1 := Lib.hid hb1
      have C2 := Lib.hid hb2
      have C3 := Lib.hid hb3
      have i0 : (0 : Int) ≤ (k : Int) := by omega
      have i1 : (k : Int) < 64 := by omega
      have g1 := hb.free k
      have L := Lib.hid (spW_len d k)
      clear hf hb1 hb2 hb3
      by_cases h16 : k < 16
      · have q1 : decide ((k : Int) < 16) = true := by simp; omega
        have q2 : decide (k < 16) = true := by simpa using h16
        have R := Lib.hid ((HR.out).fr0 F2.out)
        have c1 := hb.cell k (wA_at hlt)
        clear hb
        have j0 : (0 : Int) ≤ 4 * (k : Int) := by omega
        have j1 : 4 * (k : Int) < 64 := by omega
        have j2 : (0 : Int) ≤ 4 * (k : Int) + 1 := by omega
        have j3 : 4 * (k : Int) + 1 < 64 := by omega
        have j4 : (0 : Int) ≤ 4 * (k : Int) + 2 := by omega
        have j5 : 4 * (k : Int) + 2 < 64 := by omega
        have j6 : (0 : Int) ≤ 4 * (k : Int) + 3 := by omega
        have j7 : 4 * (k : Int) + 3 < 64 := by omega
        have e1 : IntKind.i64.wrap (4 * (k : Int)) = 4 * (k : Int) := IntWalk.i64_in _ (by omega)
        have e2 : IntKind.i64.wrap (4 * (k : Int) + 1) = 4 * (k : Int) + 1 := IntWalk.i64_in _ (by omega)
        have e3 : IntKind.i64.wrap (4 * (k : Int) + 2) = 4 * (k : Int) + 2 := IntWalk.i64_in _ (by omega)
        have e4 : IntKind.i64.wrap (4 * (k : Int) + 3) = 4 * (k : Int) + 3 := IntWalk.i64_in _ (by omega)
        have n1 : (4 * (k : Int)).toNat = 4 * k := by omega
        have n2 : (4 * (k : Int) + 1).toNat = 4 * k + 1 := by omega
        have n3 : (4 * (k : Int) + 2).toNat = 4 * k + 2 := by omega
        have n4 : (4 * (k : Int) + 3).toNat = 4 * k + 3 := by omega
        have k0 := rdb_bAt R.out (i := 4 * k) (by rw [HD.out]; omega)
        have k1 := rdb_bAt R.out (i := 4 * k + 1) (by rw [HD.out]; omega)
        have k2 := rdb_bAt R.out (i := 4 * k + 2) (by rw [HD.out]; omega)
        have k3 := rdb_bAt R.out (i := 4 * k + 3) (by rw [HD.out]; omega)
        have x0 := bAt_lt d (4 * k)
        have x1 := bAt_lt d (4 * k + 1)
        have x2 := bAt_lt d (4 * k + 2)
        have x3 := bAt_lt d (4 * k + 3)
        have HW := Lib.hid (show word4 d k = bAt d (4 * k) * 16777216 + bAt d (4 * k + 1) * 65536 + bAt d (4 * k + 2) * 256 + bAt d (4 * k + 3) from rfl)
        obtain ⟨b0, hb0⟩ : ∃ x, x = bAt d (4 * k) := ⟨_, rfl⟩
        obtain ⟨b1, hb1⟩ : ∃ x, x = bAt d (4 * k + 1) := ⟨_, rfl⟩
        obtain ⟨b2, hb2⟩ : ∃ x, x = bAt d (4 * k + 2) := ⟨_, rfl⟩
        obtain ⟨b3, hb3⟩ : ∃ x, x = bAt d (4 * k + 3) := ⟨_, rfl⟩
        rw [← hb0] at k0 x0 HW
        rw [← hb1] at k1 x1 HW
        rw [← hb2] at k2 x2 HW
        rw [← hb3] at k3 x3 HW
        have NS := Lib.hid (fun (W : World) (hf : Fr0 w W) => (show W.cell? ⟨g, off + 4 * k, none⟩ = some (.int .u8 b0) ∧ W.cell? ⟨g, off + (4 * k + 1), none⟩ = some (.int .u8 b1) ∧ W.cell? ⟨g, off + (4 * k + 2), none⟩ = some (.int .u8 b2) ∧ W.cell? ⟨g, off + (4 * k + 3), none⟩ = some (.int .u8 b3) by
          rw [hb0, hb1, hb2, hb3]
          have R := (HR.out).fr0 hf
          exact ⟨rdb_bAt R (by rw [HD.out]; omega), rdb_bAt R (by rw [HD.out]; omega), rdb_bAt R (by rw [HD.out]; omega), rdb_bAt R (by rw [HD.out]; omega)⟩))
        clear hb0 hb1 hb2 hb3
        have w0 : IntKind.u32.wrap (b0 : Int) = b0 := by show (b0 : Int) % 4294967296 = _; omega
        have w1 : IntKind.u32.wrap (b1 : Int) = b1 := by show (b1 : Int) % 4294967296 = _; omega
        have w2 : IntKind.u32.wrap (b2 : Int) = b2 := by show (b2 : Int) % 4294967296 = _; omega
        have w3 : IntKind.u32.wrap (b3 : Int) = b3 := by show (b3 : Int) % 4294967296 = _; omega
        have HZ := Lib.hid (show (b0 : Int) * 16777216 + (b1 : Int) * 65536 + (b2 : Int) * 256 + (b3 : Int) = ((word4 d k : Nat) : Int) by rw [HW.out]; omega)
        obtain ⟨z, hz4⟩ : ∃ z, z = word4 d k := ⟨_, rfl⟩
        rw [← hz4] at HZ
        have ez := HZ.out
        have HO := Lib.hid hz4
        have SN := Lib.hid (fun (u : Value) => Fr0.setNew3 F2.out k u)
        clear hz4 HW
        go_wp2_with fail
        go_region_held_law (fun w' => w'.cell? ⟨g, off + 4 * k, none⟩ = some (.int .u8 b0) ∧ w'.cell? ⟨g, off + (4 * k + 1), none⟩ = some (.int .u8 b1) ∧ w'.cell? ⟨g, off + (4 * k + 2), none⟩ = some (.int .u8 b2) ∧ w'.cell? ⟨g, off + (4 * k + 3), none⟩ = some (.int .u8 b3)) (first | with_reducible exact NS.out _ F2.out | with_reducible exact NS.out _ (Fr0.drew F2.out) | with_reducible exact NS.out _ (SN.out _) | with_reducible exact NS.out _ (Fr0.drew (SN.out _))) (fail)
        go_wp2_with fail
        go_roundw
        case measure => simp [intOf]; omega
        case rel =>
          have hB := (B2.out).set k (.int .u32 (z : Int))
          have hp := wA_push (n := 64) (l := spW d k) (by rw [L.out]; exact hlt) z
          rw [L.out] at hp
          rw [hp] at hB
          have e : spW d (k + 1) = spW d k ++ [z] := by
            show spW d k ++ [nextW d (spW d k)] = _
            unfold nextW
            rw [L.out, if_pos h16, HO.out]
          rw [← e] at hB
          rw [ez]
          exact ⟨k + 1, by omega, by go_num, (SN.out _).drew, ((C1.out).other (p := ⟨w.heap.size + 1 + 1 + 1, k, none⟩) (by show w.heap.size ≠ w.heap.size + 1 + 1 + 1; omega) _).drew, ((C2.out).other (p := ⟨w.heap.size + 1 + 1 + 1, k, none⟩) (by show w.heap.size + 1 ≠ w.heap.size + 1 + 1 + 1; omega) _).drew, ((C3.out).other (p := ⟨w.heap.size + 1 + 1 + 1, k, none⟩) (by show w.heap.size + 1 + 1 ≠ w.heap.size + 1 + 1 + 1; omega) _).drew, hB.drew⟩
      · have q1 : decide ((k : Int) < 16) = false := by simp; omega
        have q2 : decide (k < 16) = false := by simpa using h16
        have c1 := hb.cell k (wA_at hlt)
        have hbl := spW_lt d k
        clear hb
        have HNW := Lib.hid (show nextW d (spW d k) = ((spW d k).getD (k - 16) 0 + mixS ((spW d k).getD (k - 15) 0) 7 18 3 + (spW d k).getD (k - 7) 0 + mixS ((spW d k).getD (k - 2) 0) 17 19 10) % 4294967296 by unfold nextW; rw [L.out, if_neg h16])
        have wl : ∀ i, (spW d k).getD i 0 < 4294967296 := by
          intro i
          rcases Nat.lt_or_ge i (spW d k).length with h | h
          · rw [show (spW d k).getD i 0 = (spW d k)[i] from by simp [List.getD, h]]; exact hbl _ (List.getElem_mem h)
          · rw [show (spW d k).getD i 0 = 0 from by simp [List.getD, List.getElem?_eq_none h]]; decide
        have l0 := wl (k - 16)
        have l1 := wl (k - 15)
        have l2 := wl (k - 7)
        have l3 := wl (k - 2)
        clear hbl wl
        have NS := Lib.hid (fun (W : World) (h : Fr0 wr W) => show W.cell? ⟨w.heap.size + 1 + 1 + 1, k - 16, none⟩ = some (.int .u32 ((spW d k).getD (k - 16) 0 : Nat)) ∧ W.cell? ⟨w.heap.size + 1 + 1 + 1, k - 15, none⟩ = some (.int .u32 ((spW d k).getD (k - 15) 0 : Nat)) ∧ W.cell? ⟨w.heap.size + 1 + 1 + 1, k - 7, none⟩ = some (.int .u32 ((spW d k).getD (k - 7) 0 : Nat)) ∧ W.cell? ⟨w.heap.size + 1 + 1 + 1, k - 2, none⟩ = some (.int .u32 ((spW d k).getD (k - 2) 0 : Nat)) from by
          have B := (B2.out).fr0 h
          exact ⟨B.cell _ (wA_at (by omega)), B.cell _ (wA_at (by omega)), B.cell _ (wA_at (by omega)), B.cell _ (wA_at (by omega))⟩)
        have NT := Lib.hid (fun (W : World) (h : Fr0 wr W) (u : Value) => show (W.setCell ⟨w.heap.size + 1 + 1 + 1, k, none⟩ u).cell? ⟨w.heap.size + 1 + 1 + 1, k - 16, none⟩ = some (.int .u32 ((spW d k).getD (k - 16) 0 : Nat)) ∧ (W.setCell ⟨w.heap.size + 1 + 1 + 1, k, none⟩ u).cell? ⟨w.heap.size + 1 + 1 + 1, k - 15, none⟩ = some (.int .u32 ((spW d k).getD (k - 15) 0 : Nat)) ∧ (W.setCell ⟨w.heap.size + 1 + 1 + 1, k, none⟩ u).cell? ⟨w.heap.size + 1 + 1 + 1, k - 7, none⟩ = some (.int .u32 ((spW d k).getD (k - 7) 0 : Nat)) ∧ (W.setCell ⟨w.heap.size + 1 + 1 + 1, k, none⟩ u).cell? ⟨w.heap.size + 1 + 1 + 1, k - 2, none⟩ = some (.int .u32 ((spW d k).getD (k - 2) 0 : Nat)) from by
          have B := ((B2.out).fr0 h).set k u
          have f := fun j (hj : j ≠ k) (h64 : j < 64) => B.cell j (v := .int .u32 ((spW d k).getD j 0 : Nat)) (by rw [Array.getElem?_setIfInBounds_ne (by omega)]; exact wA_at h64)
          exact ⟨f _ (by omega) (by omega), f _ (by omega) (by omega), f _ (by omega) (by omega), f _ (by omega) (by omega)⟩)
        have CK := Lib.hid (fun (W : World) (h : Fr0 wr W) => And.intro (((B2.out).fr0 h).cell k (wA_at (l := spW d k) hlt)) (((B2.out).fr0 h).free k))
        obtain ⟨a0, ha0⟩ : ∃ x, x = (spW d k).getD (k - 16) 0 := ⟨_, rfl⟩
        obtain ⟨a1, ha1⟩ : ∃ x, x = (spW d k).getD (k - 15) 0 := ⟨_, rfl⟩
        obtain ⟨a2, ha2⟩ : ∃ x, x = (spW d k).getD (k - 7) 0 := ⟨_, rfl⟩
        obtain ⟨a3, ha3⟩ : ∃ x, x = (spW d k).getD (k - 2) 0 := ⟨_, rfl⟩
        rw [← ha0] at NS NT HNW l0
        rw [← ha1] at NS NT HNW l1
        rw [← ha2] at NS NT HNW l2
        rw [← ha3] at NS NT HNW l3
        have HA1 := Lib.hid (fun (W : World) => show Calls Try.prog 77 #[.int .u32 (a1 : Int), .int .i64 7] W (fun e w' => e = .returned (.int .u32 (rotr a1 7 : Nat)) ∧ W = w') from rrot_any a1 7 W (by omega) (by omega) (by omega))
        have HB1 := Lib.hid (fun (W : World) => show Calls Try.prog 77 #[.int .u32 (a1 : Int), .int .i64 18] W (fun e w' => e = .returned (.int .u32 (rotr a1 18 : Nat)) ∧ W = w') from rrot_any a1 18 W (by omega) (by omega) (by omega))
        have la1 := rotr_lt (x := a1) (a := 7) (by omega)
        have lb1 := rotr_lt (x := a1) (a := 18) (by omega)
        have HM1 := Lib.hid (show mixS a1 7 18 3 = rotr a1 7 ^^^ rotr a1 18 ^^^ a1 / 8 from rfl)
        obtain ⟨ra1, hra1⟩ : ∃ r, r = rotr a1 7 := ⟨_, rfl⟩
        obtain ⟨rb1, hrb1⟩ : ∃ r, r = rotr a1 18 := ⟨_, rfl⟩
        rw [← hra1] at HA1 la1 HM1
        rw [← hrb1] at HB1 lb1 HM1
        have x11 := u32_xor_nat ra1 rb1 la1 lb1
        have lc1 : a1 / 8 < 4294967296 := by omega
        have x12 := u32_xor_nat (ra1 ^^^ rb1) (a1 / 8) (xor_lt la1 lb1) lc1
        have x13 : (a1 : Int) / 8 = ((a1 / 8 : Nat) : Int) := by omega
        have m1 : mixS a1 7 18 3 < 4294967296 := mixS_lt (by omega)
        rw [← HM1.out] at x12
        obtain ⟨rc1, hrc1⟩ : ∃ r, r = a1 / 8 := ⟨_, rfl⟩
        rw [← hrc1] at x12 x13
        obtain ⟨rx1, hrx1⟩ : ∃ r, r = ra1 ^^^ rb1 := ⟨_, rfl⟩
        rw [← hrx1] at x11 x12
        obtain ⟨s1, hs1⟩ : ∃ x, x = mixS a1 7 18 3 := ⟨_, rfl⟩
        rw [← hs1] at HNW m1 x12
        clear hra1 hrb1 hrc1 hrx1 HM1
        have HA2 := Lib.hid (fun (W : World) => show Calls Try.prog 77 #[.int .u32 (a3 : Int), .int .i64 17] W (fun e w' => e = .returned (.int .u32 (rotr a3 17 : Nat)) ∧ W = w') from rrot_any a3 17 W (by omega) (by omega) (by omega))
        have HB2 := Lib.hid (fun (W : World) => show Calls Try.prog 77 #[.int .u32 (a3 : Int), .int .i64 19] W (fun e w' => e = .returned (.int .u32 (rotr a3 19 : Nat)) ∧ W = w') from rrot_any a3 19 W (by omega) (by omega) (by omega))
        have la2 := rotr_lt (x := a3) (a := 17) (by omega)
        have lb2 := rotr_lt (x := a3) (a := 19) (by omega)
        have HM2 := Lib.hid (show mixS a3 17 19 10 = rotr a3 17 ^^^ rotr a3 19 ^^^ a3 / 1024 from rfl)
        obtain ⟨ra2, hra2⟩ : ∃ r, r = rotr a3 17 := ⟨_, rfl⟩
        obtain ⟨rb2, hrb2⟩ : ∃ r, r = rotr a3 19 := ⟨_, rfl⟩
        rw [← hra2] at HA2 la2 HM2
        rw [← hrb2] at HB2 lb2 HM2
        have x21 := u32_xor_nat ra2 rb2 la2 lb2
        have lc2 : a3 / 1024 < 4294967296 := by omega
        have x22 := u32_xor_nat (ra2 ^^^ rb2) (a3 / 1024) (xor_lt la2 lb2) lc2
        have x23 : (a3 : Int) / 1024 = ((a3 / 1024 : Nat) : Int) := by omega
        have m2 : mixS a3 17 19 10 < 4294967296 := mixS_lt (by omega)
        rw [← HM2.out] at x22
        obtain ⟨rc2, hrc2⟩ : ∃ r, r = a3 / 1024 := ⟨_, rfl⟩
        rw [← hrc2] at x22 x23
        obtain ⟨rx2, hrx2⟩ : ∃ r, r = ra2 ^^^ rb2 := ⟨_, rfl⟩
        rw [← hrx2] at x21 x22
        obtain ⟨s2, hs2⟩ : ∃ x, x = mixS a3 17 19 10 := ⟨_, rfl⟩
        rw [← hs2] at HNW m2 x22
        clear hra2 hrb2 hrc2 hrx2 HM2
        obtain ⟨z, hz4⟩ : ∃ z, z = nextW d (spW d k) := ⟨_, rfl⟩
        rw [← hz4] at HNW
        have HO := Lib.hid hz4
        have HZ := Lib.hid (show IntKind.u32.wrap (IntKind.u32.wrap (IntKind.u32.wrap ((a0 : Int) + (s1 : Int)) + (a2 : Int)) + (s2 : Int)) = (z : Int) by
          rw [HNW.out]
          show (((((a0 : Int) + s1) % 4294967296 + a2) % 4294967296) + s2) % 4294967296 = _
          omega)
        clear ha0 ha1 ha2 ha3 hs1 hs2 hz4
        have e1 : IntKind.i64.wrap ((k : Int) - 16) = (k : Int) - 16 := IntWalk.i64_in _ (by omega)
        have e2 : IntKind.i64.wrap ((k : Int) - 15) = (k : Int) - 15 := IntWalk.i64_in _ (by omega)
        have e3 : IntKind.i64.wrap ((k : Int) - 7) = (k : Int) - 7 := IntWalk.i64_in _ (by omega)
        have e4 : IntKind.i64.wrap ((k : Int) - 2) = (k : Int) - 2 := IntWalk.i64_in _ (by omega)
        have j0 : (0 : Int) ≤ (k : Int) - 16 := by omega
        have j1 : (k : Int) - 16 < 64 := by omega
        have j2 : (0 : Int) ≤ (k : Int) - 15 := by omega
        have j3 : (k : Int) - 15 < 64 := by omega
        have j4 : (0 : Int) ≤ (k : Int) - 7 := by omega
        have j5 : (k : Int) - 7 < 64 := by omega
        have j6 : (0 : Int) ≤ (k : Int) - 2 := by omega
        have j7 : (k : Int) - 2 < 64 := by omega
        have J0 : (16 : Int) ≤ (k : Int) := by omega
        have J2 : (15 : Int) ≤ (k : Int) := by omega
        have J4 : (7 : Int) ≤ (k : Int) := by omega
        have J6 : (2 : Int) ≤ (k : Int) := by omega
        have n1 : ((k : Int) - 16).toNat = k - 16 := by omega
        have n2 : ((k : Int) - 15).toNat = k - 15 := by omega
        have n3 : ((k : Int) - 7).toNat = k - 7 := by omega
        have n4 : ((k : Int) - 2).toNat = k - 2 := by omega
        have SN := Lib.hid (fun (W : World) (h : Fr0 w W) (u : Value) => Fr0.setNew3 h k u)
        have cc0 := (NS.out _ (Fr0.refl wr)).1
        have cc1 := (NS.out _ (Fr0.refl wr)).2.1
        have cc2 := (NS.out _ (Fr0.refl wr)).2.2.1
        have cc3 := (NS.out _ (Fr0.refl wr)).2.2.2
        have ez := HZ.out
        go_wp2_with (first
          | (go_at_call 77; (with_reducible refine (HA1.out _).mono ?_); rintro e w' ⟨rfl, rfl⟩)
          | (go_at_call 77; (with_reducible refine (HB1.out _).mono ?_); rintro e w' ⟨rfl, rfl⟩)
          | (go_at_call 77; (with_reducible refine (HA2.out _).mono ?_); rintro e w' ⟨rfl, rfl⟩)
          | (go_at_call 77; (with_reducible refine (HB2.out _).mono ?_); rintro e w' ⟨rfl, rfl⟩))
        have Q := Lib.hid ((Fr0.refl wr).drew)
        clear cc0 cc1 cc2 cc3 x11 x12 x13 x21 x22 x23
        go_region_held_law (fun w' => w'.cell? ⟨w.heap.size + 1 + 1 + 1, k - 16, none⟩ = some (.int .u32 (a0 : Int)) ∧ w'.cell? ⟨w.heap.size + 1 + 1 + 1, k - 7, none⟩ = some (.int .u32 (a2 : Int))) (first | exact ⟨(NS.out _ Q.out).1, (NS.out _ Q.out).2.2.1⟩ | exact ⟨(NT.out _ Q.out _).1, (NT.out _ Q.out _).2.2.1⟩ | exact ⟨(NT.out _ (Fr0.refl wr) _).1, (NT.out _ (Fr0.refl wr) _).2.2.1⟩) (fail)
        go_wp2_with fail
        go_roundw
        case measure => simp [intOf]; omega
        case rel =>
          have hB := ((B2.out)).set k (.int .u32 (z : Int))
          have hp := wA_push (n := 64) (l := spW d k) (by rw [L.out]; exact hlt) z
          rw [L.out] at hp
          rw [hp] at hB
          have e : spW d (k + 1) = spW d k ++ [z] := by
            show spW d k ++ [nextW d (spW d k)] = _
            rw [HO.out]
          rw [← e] at hB
          exact ⟨k + 1, by omega, by go_num, (SN.out _ F2.out _).drew, ((C1.out).other (p := ⟨w.heap.size + 1 + 1 + 1, k, none⟩) (by show w.heap.size ≠ w.heap.size + 1 + 1 + 1; omega) _).drew, ((C2.out).other (p := ⟨w.heap.size + 1 + 1 + 1, k, none⟩) (by show w.heap.size + 1 ≠ w.heap.size + 1 + 1 + 1; omega) _).drew, ((C3.out).other (p := ⟨w.heap.size + 1 + 1 + 1, k, none⟩) (by show w.heap.size + 1 + 1 ≠ w.heap.size + 1 + 1 + 1; omega) _).drew, hB.drew⟩
    · obtain rfl : k = 64 := by omega
      clear hlt hk
      have hXS := HXS.out
      have hKA := HKA.out
      have HW := Lib.hid (spW_lt d 64)
      obtain ⟨ws, hws⟩ : ∃ ws, ws = spW d 64 := ⟨_, rfl⟩
      rw [← hws] at hb HW
      have HWS := Lib.hid hws
      clear hws
      have HWL := Lib.hid (fun i => getD_lt HW.out (by decide) i)
      subst hXS
      have hi8 : (Try.prog.info? 89).map (·.size) = some (h8c x).size := by kernel_rfl
      have ho8 : (wA 8 []).size = (h8c x).size := rfl
      have h1x := h8_one x
      have C1 := Lib.hid hb1
      have C2 := Lib.hid hb2
      have C3 := Lib.hid hb3
      have C4 := Lib.hid hb
      have F2 := Lib.hid hf
      have zr : w.heap.size + 4 ≤ wr.heap.size := by have := hb.lt; omega
      have hrun8 : ∀ W : World, (Instr.alloc 89 true (.tuple #[])).run Try.prog W = .ok (.pointer (some ⟨W.heap.size, 0, none⟩)) (W.alloc (.cells (wA 8 []) 89)) := fun _ => by kernel_rfl
      have HRUN8 := Lib.hid hrun8
      clear hb1 hb2 hb3 hb hf hKA hrun8
      go_wp2_with (first
        | (refine list_load_blk rfl 89 _ rfl w.heap.size rfl 89 _ C1.out _ Try.underlying89 rfl hi8 ?_)
        | (refine list_alloc_blk rfl 89 rfl (wA 8 []) HRUN8.out ?_; intro g13 w1 hB hF hl; have D0 := Lib.hid hB; have G1 := Lib.hid hF; have l13 := hl; clear hB hF hl)
        | (refine list_store_blk rfl 89 _ _ rfl g13 (h8c x) rfl rfl 89 _ D0.out hi8 ho8 h1x ?_; intro w2 hB hF; have D1 := Lib.hid hB; have G2 := Lib.hid (Fr0.new G1.out hF l13); clear hB hF))
      go_loopw [14] (fun v14 wq => ∃ k : Nat, k ≤ 64 ∧ v14 = .int .i64 k ∧ Fr0 wr wq ∧ Blk wq g13 (h8c (rnds x turnL ws k)) 89) (fun v14 _ => 64 - (intOf v14).toNat)
      case atStart => exact ⟨0, Nat.zero_le _, rfl, G2.out, D1.out⟩
      case round =>
        obtain ⟨k, hk, rfl, hf, b3⟩ := hrel
        by_cases hlt : k < 64
        · have FQ := Lib.hid hf
          have B3 := Lib.hid b3
          have YO := Lib.hid ((HX.out).rnds turnL ws k)
          have HRS := Lib.hid (show rnds x turnL ws (k + 1) = rnd (rnds x turnL ws k) (turnL.getD k 0) (ws.getD k 0) from rfl)
          obtain ⟨y, hy⟩ : ∃ y, y = rnds x turnL ws k := ⟨_, rfl⟩
          rw [← hy] at b3 B3 YO HRS
          have b2 := (C2.out).fr0 hf
          have b4 := (C4.out).fr0 hf
          rw [HKA.out] at b2
          clear hy hf
          obtain ⟨ya, yb, yc, yd, ye, yf, yg, yh⟩ := y
          obtain ⟨o1, o2, o3, o4, o5, o6, o7, o8⟩ := YO.out
          have i0 : (0 : Int) ≤ (k : Int) := by omega
          have i1 : (k : Int) < 64 := by omega
          have d0 := b3.cell 0 (v := .int .u32 (ya : Int)) rfl
          have d1 := b3.cell 1 (v := .int .u32 (yb : Int)) rfl
          have d2 := b3.cell 2 (v := .int .u32 (yc : Int)) rfl
          have d3 := b3.cell 3 (v := .int .u32 (yd : Int)) rfl
          have d4 := b3.cell 4 (v := .int .u32 (ye : Int)) rfl
          have d5 := b3.cell 5 (v := .int .u32 (yf : Int)) rfl
          have d6 := b3.cell 6 (v := .int .u32 (yg : Int)) rfl
          have d7 := b3.cell 7 (v := .int .u32 (yh : Int)) rfl
          have dk := b2.cell k (wA_at (l := turnL) hlt)
          have lk := turnL_lt k
          have dw := b4.cell k (wA_at (l := ws) hlt)
          have lw := (HWL.out) k
          obtain ⟨kk, hkk⟩ : ∃ z, z = turnL.getD k 0 := ⟨_, rfl⟩
          obtain ⟨wk, hwk⟩ : ∃ z, z = ws.getD k 0 := ⟨_, rfl⟩
          rw [← hkk] at dk lk HRS
          rw [← hwk] at dw lw HRS
          have HU := Lib.hid (show uN ⟨ya, yb, yc, yd, ye, yf, yg, yh⟩ kk wk = (yh + mixT ye 6 11 25 + ((ye &&& yf) ^^^ (inv32 ye &&& yg)) + kk + wk) % 4294967296 from rfl)
          have HV := Lib.hid (show vN ⟨ya, yb, yc, yd, ye, yf, yg, yh⟩ = (mixT ya 2 13 22 + ((ya &&& yb) ^^^ (ya &&& yc) ^^^ (yb &&& yc))) % 4294967296 from rfl)
          have HRD := Lib.hid (show rnd ⟨ya, yb, yc, yd, ye, yf, yg, yh⟩ kk wk = ⟨(uN ⟨ya, yb, yc, yd, ye, yf, yg, yh⟩ kk wk + vN ⟨ya, yb, yc, yd, ye, yf, yg, yh⟩) % 4294967296, ya, yb, yc, (yd + uN ⟨ya, yb, yc, yd, ye, yf, yg, yh⟩ kk wk) % 4294967296, ye, yf, yg⟩ from rfl)
          have Ha1 := Lib.hid (fun (W : World) => show Calls Try.prog 77 #[.int .u32 (ye : Int), .int .i64 6] W (fun e w' => e = .returned (.int .u32 (rotr ye 6 : Nat)) ∧ W = w') from rrot_any ye 6 W o5 (by omega) (by omega))
          have la1 := rotr_lt (a := 6) o5
          have Hb1 := Lib.hid (fun (W : World) => show Calls Try.prog 77 #[.int .u32 (ye : Int), .int .i64 11] W (fun e w' => e = .returned (.int .u32 (rotr ye 11 : Nat)) ∧ W = w') from rrot_any ye 11 W o5 (by omega) (by omega))
          have lb1 := rotr_lt (a := 11) o5
          have Hc1 := Lib.hid (fun (W : World) => show Calls Try.prog 77 #[.int .u32 (ye : Int), .int .i64 25] W (fun e w' => e = .returned (.int .u32 (rotr ye 25 : Nat)) ∧ W = w') from rrot_any ye 25 W o5 (by omega) (by omega))
          have lc1 := rotr_lt (a := 25) o5
          have HM1 := Lib.hid (show mixT ye 6 11 25 = rotr ye 6 ^^^ rotr ye 11 ^^^ rotr ye 25 from rfl)
          obtain ⟨ra1, hra1⟩ : ∃ r, r = rotr ye 6 := ⟨_, rfl⟩
          rw [← hra1] at Ha1 la1 HM1
          obtain ⟨rb1, hrb1⟩ : ∃ r, r = rotr ye 11 := ⟨_, rfl⟩
          rw [← hrb1] at Hb1 lb1 HM1
          obtain ⟨rc1, hrc1⟩ : ∃ r, r = rotr ye 25 := ⟨_, rfl⟩
          rw [← hrc1] at Hc1 lc1 HM1
          have x11 := u32_xor_nat ra1 rb1 la1 lb1
          have x12 := u32_xor_nat (ra1 ^^^ rb1) rc1 (xor_lt la1 lb1) lc1
          have m1l := mixT_lt (a := 6) (b := 11) (c := 25) o5
          rw [← HM1.out] at x12
          obtain ⟨rx1, hrx1⟩ : ∃ r, r = ra1 ^^^ rb1 := ⟨_, rfl⟩
          rw [← hrx1] at x11 x12
          obtain ⟨m1, hm1⟩ : ∃ z, z = mixT ye 6 11 25 := ⟨_, rfl⟩
          rw [← hm1] at m1l x12 HU
          clear hra1 hrb1 hrc1 hrx1 HM1
          have Ha2 := Lib.hid (fun (W : World) => show Calls Try.prog 77 #[.int .u32 (ya : Int), .int .i64 2] W (fun e w' => e = .returned (.int .u32 (rotr ya 2 : Nat)) ∧ W = w') from rrot_any ya 2 W o1 (by omega) (by omega))
          have la2 := rotr_lt (a := 2) o1
          have Hb2 := Lib.hid (fun (W : World) => show Calls Try.prog 77 #[.int .u32 (ya : Int), .int .i64 13] W (fun e w' => e = .returned (.int .u32 (rotr ya 13 : Nat)) ∧ W = w') from rrot_any ya 13 W o1 (by omega) (by omega))
          have lb2 := rotr_lt (a := 13) o1
          have Hc2 := Lib.hid (fun (W : World) => show Calls Try.prog 77 #[.int .u32 (ya : Int), .int .i64 22] W (fun e w' => e = .returned (.int .u32 (rotr ya 22 : Nat)) ∧ W = w') from rrot_any ya 22 W o1 (by omega) (by omega))
          have lc2 := rotr_lt (a := 22) o1
          have HM2 := Lib.hid (show mixT ya 2 13 22 = rotr ya 2 ^^^ rotr ya 13 ^^^ rotr ya 22 from rfl)
          obtain ⟨ra2, hra2⟩ : ∃ r, r = rotr ya 2 := ⟨_, rfl⟩
          rw [← hra2] at Ha2 la2 HM2
          obtain ⟨rb2, hrb2⟩ : ∃ r, r = rotr ya 13 := ⟨_, rfl⟩
          rw [← hrb2] at Hb2 lb2 HM2
          obtain ⟨rc2, hrc2⟩ : ∃ r, r = rotr ya 22 := ⟨_, rfl⟩
          rw [← hrc2] at Hc2 lc2 HM2
          have x21 := u32_xor_nat ra2 rb2 la2 lb2
          have x22 := u32_xor_nat (ra2 ^^^ rb2) rc2 (xor_lt la2 lb2) lc2
          have m2l := mixT_lt (a := 2) (b := 13) (c := 22) o1
          rw [← HM2.out] at x22
          obtain ⟨rx2, hrx2⟩ : ∃ r, r = ra2 ^^^ rb2 := ⟨_, rfl⟩
          rw [← hrx2] at x21 x22
          obtain ⟨m2, hm2⟩ : ∃ z, z = mixT ya 2 13 22 := ⟨_, rfl⟩
          rw [← hm2] at m2l x22 HV
          clear hra2 hrb2 hrc2 hrx2 HM2
          have q1 := u32_and_nat ye yf o5 o6
          have q2 := inv_eq ye o5
          have q2l : inv32 ye < 4294967296 := by unfold inv32; omega
          obtain ⟨iv, hiv⟩ : ∃ z, z = inv32 ye := ⟨_, rfl⟩
          rw [← hiv] at q2 q2l HU
          have q3 := u32_and_nat iv yg q2l o7
          have q1l := and_lt (b := yf) o5
          have q3l := and_lt (b := yg) q2l
          obtain ⟨p1, hp1⟩ : ∃ z, z = ye &&& yf := ⟨_, rfl⟩
          obtain ⟨p3, hp3⟩ : ∃ z, z = iv &&& yg := ⟨_, rfl⟩
          rw [← hp1] at q1 q1l HU
          rw [← hp3] at q3 q3l HU
          have q4 := u32_xor_nat p1 p3 q1l q3l
          obtain ⟨ch, hch⟩ : ∃ z, z = p1 ^^^ p3 := ⟨_, rfl⟩
          rw [← hch] at q4 HU
          have t1 := u32_and_nat ya yb o1 o2
          have t2 := u32_and_nat ya yc o1 o3
          have t3 := u32_and_nat yb yc o2 o3
          have t1l := and_lt (b := yb) o1
          have t2l := and_lt (b := yc) o1
          have t3l := and_lt (b := yc) o2
          obtain ⟨r1, hr1⟩ : ∃ z, z = ya &&& yb := ⟨_, rfl⟩
          obtain ⟨r2, hr2⟩ : ∃ z, z = ya &&& yc := ⟨_, rfl⟩
          obtain ⟨r3, hr3⟩ : ∃ z, z = yb &&& yc := ⟨_, rfl⟩
          rw [← hr1] at t1 t1l HV
          rw [← hr2] at t2 t2l HV
          rw [← hr3] at t3 t3l HV
          have t4 := u32_xor_nat r1 r2 t1l t2l
          have t4l := xor_lt t1l t2l
          obtain ⟨r4, hr4⟩ : ∃ z, z = r1 ^^^ r2 := ⟨_, rfl⟩
          rw [← hr4] at t4 t4l HV
          have t5 := u32_xor_nat r4 r3 t4l t3l
          obtain ⟨mj, hmj⟩ : ∃ z, z = r4 ^^^ r3 := ⟨_, rfl⟩
          rw [← hmj] at t5 HV
          obtain ⟨u, hu⟩ : ∃ z, z = uN ⟨ya, yb, yc, yd, ye, yf, yg, yh⟩ kk wk := ⟨_, rfl⟩
          obtain ⟨v, hv⟩ : ∃ z, z = vN ⟨ya, yb, yc, yd, ye, yf, yg, yh⟩ := ⟨_, rfl⟩
          rw [← hu] at HU HRD
          rw [← hv] at HV HRD
          have ul : u < 4294967296 := by rw [HU.out]; exact Nat.mod_lt _ (by decide)
          have vl : v < 4294967296 := by rw [HV.out]; exact Nat.mod_lt _ (by decide)
          have eu : ((yh : Int) + (m1 : Int) + (ch : Int) + (kk : Int) + (wk : Int)) % 4294967296 = (u : Int) := by rw [HU.out]; omega
          have ev : ((m2 : Int) + (mj : Int)) % 4294967296 = (v : Int) := by rw [HV.out]; omega
          obtain ⟨n0, hn0⟩ : ∃ z, z = (u + v) % 4294967296 := ⟨_, rfl⟩
          obtain ⟨n4, hn4⟩ : ∃ z, z = (yd + u) % 4294967296 := ⟨_, rfl⟩
          rw [← hn0, ← hn4] at HRD
          have e0 : ((u : Int) + (v : Int)) % 4294967296 = (n0 : Int) := by rw [hn0]; omega
          have e4 : ((yd : Int) + (u : Int)) % 4294967296 = (n4 : Int) := by rw [hn4]; omega
          clear b2 b3 b4 hkk hwk hm1 hm2 hiv hp1 hp3 hch hr1 hr2 hr3 hr4 hmj hu hv hn0 hn4 HU HV
          go_wp2_with fail
          go_quiet ((go_at_call 77; first | (with_reducible exact quiet_leftS (Ha1.out _)) | (with_reducible exact quiet_leftS (Hb1.out _)) | (with_reducible exact quiet_leftS (Hc1.out _))))
          go_wp2_with fail
          change World.cell? (wr.drewN nq) _ = _ at d0 d1 d2 d3 d4 d5 d6 d7 dk dw
          replace FQ := Lib.hid ((FQ.out).drewN nq)
          replace B3 := Lib.hid (show Blk (wr.drewN nq) _ _ _ from (B3.out).drewN nq)
          generalize wr.drewN nq = wd at *
          go_quiet ((go_at_call 77; first | (with_reducible exact quiet_leftS (Ha2.out _)) | (with_reducible exact quiet_leftS (Hb2.out _)) | (with_reducible exact quiet_leftS (Hc2.out _))))
          have hiY : (Try.prog.info? 89).map (·.size) = some (h8c ⟨ya, yb, yc, yd, ye, yf, yg, yh⟩).size := by kernel_rfl
          have hoY : (wA 8 []).size = (h8c ⟨ya, yb, yc, yd, ye, yf, yg, yh⟩).size := rfl
          have h1Y := h8_one ⟨ya, yb, yc, yd, ye, yf, yg, yh⟩
          have HIY := Lib.hid hiY
          have HOY := Lib.hid hoY
          have HNY := Lib.hid h1Y
          have B4 := Lib.hid (show Blk (wd.drewN nq) _ _ _ from (B3.out).drewN nq)
          have FD := Lib.hid ((FQ.out).drewN nq)
          clear hiY hoY h1Y d0 d1 d2 d3 d4 d5 d6 d7 dk dw
          generalize wd.drewN nq = we at *
          go_upto_region 21 with (first
            | (refine list_load_blk rfl 89 _ rfl g13 rfl 89 _ B4.out _ Try.underlying89 rfl HIY.out ?_)
            | (refine list_alloc_blk rfl 89 rfl (wA 8 []) HRUN8.out ?_; intro g19 w5 hB hF hl; have E0 := Lib.hid hB; have FE := Lib.hid hF; have l19 := hl; clear hB hF hl)
            | (refine list_store_blk rfl 89 _ _ rfl g19 (h8c ⟨ya, yb, yc, yd, ye, yf, yg, yh⟩) rfl rfl 89 _ E0.out HIY.out HOY.out HNY.out ?_; intro w6 hB hF; have E1 := Lib.hid hB; have FF := Lib.hid (Fr0.new FE.out hF l19); clear hB hF))
          simp only [Act.put]
          have B6 := Lib.hid ((B4.out).fr0 FF.out)
          have hne : g13 ≠ g19 := by have := (B4.out).lt; omega
          have hne2 : g19 ≠ g13 := fun h => hne h.symm
          have d0 := (B6.out).cell 0 (v := .int .u32 (ya : Int)) rfl
          have d1 := (B6.out).cell 1 (v := .int .u32 (yb : Int)) rfl
          have d2 := (B6.out).cell 2 (v := .int .u32 (yc : Int)) rfl
          have d3 := (B6.out).cell 3 (v := .int .u32 (yd : Int)) rfl
          have d4 := (B6.out).cell 4 (v := .int .u32 (ye : Int)) rfl
          have d5 := (B6.out).cell 5 (v := .int .u32 (yf : Int)) rfl
          have d6 := (B6.out).cell 6 (v := .int .u32 (yg : Int)) rfl
          have d7 := (B6.out).cell 7 (v := .int .u32 (yh : Int)) rfl
          have e0c := (E1.out).cell 0 (v := .int .u32 (ya : Int)) rfl
          have f0c := (E1.out).free 0
          have e1c := (E1.out).cell 1 (v := .int .u32 (yb : Int)) rfl
          have f1c := (E1.out).free 1
          have e2c := (E1.out).cell 2 (v := .int .u32 (yc : Int)) rfl
          have f2c := (E1.out).free 2
          have e3c := (E1.out).cell 3 (v := .int .u32 (yd : Int)) rfl
          have f3c := (E1.out).free 3
          have e4c := (E1.out).cell 4 (v := .int .u32 (ye : Int)) rfl
          have f4c := (E1.out).free 4
          have e5c := (E1.out).cell 5 (v := .int .u32 (yf : Int)) rfl
          have f5c := (E1.out).free 5
          have e6c := (E1.out).cell 6 (v := .int .u32 (yg : Int)) rfl
          have f6c := (E1.out).free 6
          have e7c := (E1.out).cell 7 (v := .int .u32 (yh : Int)) rfl
          have f7c := (E1.out).free 7
          have HIN := Lib.hid (show (Try.prog.info? 89).map (·.size) = some (h8c ⟨n0, ya, yb, yc, n4, ye, yf, yg⟩).size by kernel_rfl)
          have HNN := Lib.hid (h8_one ⟨n0, ya, yb, yc, n4, ye, yf, yg⟩)
          have HON := Lib.hid (show (h8c ⟨ya, yb, yc, yd, ye, yf, yg, yh⟩).size = (h8c ⟨n0, ya, yb, yc, n4, ye, yf, yg⟩).size from rfl)
          go_upto_region 29 with (fail)
          have EN := (((((((((E1.out).set 7 (.int .u32 (yg : Int))).set 6 (.int .u32 (yf : Int))).set 5 (.int .u32 (ye : Int))).set 4 (.int .u32 (n4 : Int))).set 3 (.int .u32 (yc : Int))).set 2 (.int .u32 (yb : Int))).set 1 (.int .u32 (ya : Int))).set 0 (.int .u32 (n0 : Int)))
          have FS := (((((((((Fr1.refl g19 w6).set 7 (.int .u32 (yg : Int))).set 6 (.int .u32 (yf : Int))).set 5 (.int .u32 (ye : Int))).set 4 (.int .u32 (n4 : Int))).set 3 (.int .u32 (yc : Int))).set 2 (.int .u32 (yb : Int))).set 1 (.int .u32 (ya : Int))).set 0 (.int .u32 (n0 : Int)))
          generalize World.setCell _ ⟨g19, 0, none⟩ _ = w9 at *
          have EN2 := Lib.hid (show Blk w9 g19 (h8c ⟨n0, ya, yb, yc, n4, ye, yf, yg⟩) 89 from EN)
          have B9 := Lib.hid ((B6.out).fr1 FS hne)
          have hgg : _ ≤ g19 := Nat.le_trans (FD.out).size l19
          have F9 := Lib.hid (Fr0.new (Fr0.trans FD.out FF.out) FS hgg)
          clear EN FS d0 d1 d2 d3 d4 d5 d6 d7 e0c e1c e2c e3c e4c e5c e6c e7c f0c f1c f2c f3c f4c f5c f6c f7c
          go_wp2_with (first
            | (refine list_load_blk rfl 89 _ rfl g19 rfl 89 _ EN2.out _ Try.underlying89 rfl HIN.out ?_)
            | (refine list_store_blk rfl 89 _ _ rfl g13 (h8c ⟨n0, ya, yb, yc, n4, ye, yf, yg⟩) rfl rfl 89 _ B9.out HIN.out HON.out HNN.out ?_; intro w10 hB hF; have BN := Lib.hid hB; have FN := Lib.hid (Fr0.new F9.out hF l13); clear hB hF))
          go_roundw
          case measure => simp [intOf]; omega
          case rel =>
            have hb := BN.out
            rw [← HRD.out, ← HRS.out] at hb
            exact ⟨k + 1, by omega, by go_num, FN.out, hb⟩
        · obtain rfl : k = 64 := by omega
          clear hlt hk
          have HT := Lib.hid (show takeN x d turnL = add8 (rnds x turnL ws 64) x by rw [HWS.out]; rfl)
          have c1 := (C1.out).fr0 hf
          have c3 := (C3.out).fr0 hf
          have FWQ := Lib.hid (Fr0.trans F2.out hf)
          obtain ⟨y, hy⟩ : ∃ y, y = rnds x turnL ws 64 := ⟨_, rfl⟩
          rw [← hy] at b3 HT
          clear hy hf
          have hz : ∀ i, i < 8 → (add8 y x).list.getD i 0 = (y.list.getD i 0 + x.list.getD i 0) % 4294967296 := by
            intro i hi
            rcases (by omega : i = 0 ∨ i = 1 ∨ i = 2 ∨ i = 3 ∨ i = 4 ∨ i = 5 ∨ i = 6 ∨ i = 7) with rfl | rfl | rfl | rfl | rfl | rfl | rfl | rfl <;> rfl
          have HT2 := Lib.hid (show h8c (takeN x d turnL) = wA 8 (add8 y x).list by rw [HT.out]; rfl)
          rw [show h8c y = wA 8 y.list from rfl] at b3
          rw [show h8c x = wA 8 x.list from rfl] at c1
          obtain ⟨zl, hzl⟩ : ∃ zl, zl = (add8 y x).list := ⟨_, rfl⟩
          obtain ⟨yl, hyl⟩ : ∃ yl, yl = y.list := ⟨_, rfl⟩
          obtain ⟨xl, hxl⟩ : ∃ xl, xl = x.list := ⟨_, rfl⟩
          have z8 := Lib.hid (show zl.length = 8 by rw [hzl]; rfl)
          have y8 := Lib.hid (show yl.length = 8 by rw [hyl]; rfl)
          rw [← hzl, ← hyl, ← hxl] at hz
          rw [← hzl] at HT2
          rw [← hyl] at b3
          rw [← hxl] at c1
          have HZ := Lib.hid hz
          have hg13 : w.heap.size + 3 < g13 := by have := (C4.out).lt; omega
          clear hz hzl hyl hxl HT
          go_wp2_with fail
          go_loopw [20] (fun v20 w2 => ∃ i : Nat, i ≤ 8 ∧ v20 = .int .i64 i ∧ Fr0 w w2 ∧ Blk w2 g13 (wA 8 (zl.take i ++ yl.drop i)) 89 ∧ Blk w2 (w.heap.size + 1 + 1) (wA 8 []) 89 ∧ Blk w2 w.heap.size (wA 8 xl) 89) (fun v20 _ => 8 - (intOf v20).toNat)
          case atStart => exact ⟨0, Nat.zero_le _, rfl, FWQ.out, b3, c3, c1⟩
          case round =>
            obtain ⟨i, hi, rfl, hf, b3, b6, b8⟩ := hrel
            by_cases hlt : i < 8
            · have F2 := Lib.hid hf
              have B3 := Lib.hid b3
              have B6 := Lib.hid b6
              have B8 := Lib.hid b8
              have i0 : (0 : Int) ≤ (i : Int) := by omega
              have i1 : (i : Int) < 8 := by omega
              have d0 := b3.cell i (wA_at (l := zl.take i ++ yl.drop i) hlt)
              rw [half_at z8.out hlt] at d0
              have f0 := b3.free i
              have d1 := b8.cell i (wA_at (l := xl) hlt)
              obtain ⟨a, ha⟩ : ∃ a, a = yl.getD i 0 := ⟨_, rfl⟩
              obtain ⟨b, hb⟩ : ∃ b, b = xl.getD i 0 := ⟨_, rfl⟩
              rw [← ha] at d0
              rw [← hb] at d1
              have HS := Lib.hid (show zl.getD i 0 = (a + b) % 4294967296 by rw [ha, hb]; exact (HZ.out) i hlt)
              obtain ⟨s, hs⟩ : ∃ s, s = (a + b) % 4294967296 := ⟨_, rfl⟩
              rw [← hs] at HS
              have es : ((a : Int) + (b : Int)) % 4294967296 = (s : Int) := by rw [hs]; omega
              clear hf b3 b6 b8 ha hb hs
              go_wp2_with fail
              go_region
              all_goals
                go_wp2_with fail
                go_roundw
                case measure => simp [intOf]; omega
                case rel =>
                  have hB := ((B3.out).set i (.int .u32 (s : Int)))
                  rw [wA_set (by rw [half_len z8.out y8.out (by omega)]; exact hlt), ← HS.out, half_set z8.out y8.out hlt, HS.out] at hB
                  exact ⟨i + 1, by omega, by go_num, Fr.setCell (p := ⟨g13, i, none⟩) (F2.out).drew (.inr (by show w.heap.size ≤ g13; omega)) _, hB.drew, ((B6.out).other (p := ⟨g13, i, none⟩) (by show w.heap.size + 1 + 1 ≠ g13; omega) _).drew, ((B8.out).other (p := ⟨g13, i, none⟩) (by show w.heap.size ≠ g13; omega) _).drew⟩
            · obtain rfl : i = 8 := by omega
              have e : zl.take 8 ++ yl.drop 8 = zl := by rw [List.take_of_length_le (by rw [z8.out]; omega), List.drop_of_length_le (by rw [y8.out]; omega), List.append_nil]
              rw [e, ← HT2.out] at b3
              clear e hlt hi
              obtain ⟨Z, hZ⟩ : ∃ Z, Z = takeN x d turnL := ⟨_, rfl⟩
              rw [← hZ] at b3
              have HZZ := Lib.hid hZ
              clear hZ
              have hiZ : (Try.prog.info? 89).map (·.size) = some (h8c Z).size := by kernel_rfl
              have hoZ : (wA 8 []).size = (h8c Z).size := rfl
              have h1Z := h8_one Z
              obtain ⟨cs, hcs⟩ : ∃ cs, cs = h8c Z := ⟨_, rfl⟩
              rw [← hcs] at b3 hiZ hoZ h1Z
              have HF := Lib.hid hf
              have HCS := Lib.hid hcs
              clear hcs hf
              repeat (first
                | refine list_load_blk rfl 89 _ rfl g13 rfl 89 _ b3 _ Try.underlying89 rfl hiZ ?_
                | (refine list_store_blk rfl 89 _ _ rfl (w.heap.size + 1 + 1) cs rfl rfl 89 _ b6 hiZ hoZ h1Z ?_; intro W9 hB hF)
                | go_values | go_skip | go_step)
              refine bodyPost_ret (v := .agg cs) (results_cell_row rfl _ _ (w.heap.size + 1 + 1) 89 cs (0, 0) _ rfl hB Try.underlying89 rfl hiZ) rfl ⟨by rw [HCS.out, HZZ.out], Fr0.new HF.out hF (by omega)⟩
end Go.Proofs.Ytpmindbipclphaa
set_option linter.unusedSimpArgs false
namespace Go.Proofs.Ytpmindbipclphaa
open Go.RowKit

theorem SlO.cutAt {base k n : Nat} {w : World} {A : Option Addr} {c : Nat} {d : List UInt8} (h : SlO base w (.slice A d.length c) d) (hk : k + n ≤ d.length) (hn : 0 < n) :
    ∃ g off, A = some ⟨g, off, none⟩ ∧ k + n ≤ c ∧ RdB w (.slice (some ⟨g, off + k, none⟩) n (c - k)) ((d.drop k).take n) := by
  rcases h with ⟨hv, rfl⟩ | ⟨g, off, c', cur, hv, hb, hg, h1, h2, h3, h4⟩
  · simp at hk; omega
  · injection hv with hA _ hc
    subst hA hc
    have hl : ((d.drop k).take n).length = n := by rw [List.length_take, List.length_drop]; omega
    refine ⟨g, off, rfl, by omega, byts_len _, ⟨_, c - k, by rw [hl], by rw [hl]; omega, by omega, fun h => by cases h⟩, fun _ => ⟨g, off + k, c - k, cur, _, _, by rw [hl], hg, fun j u hu => ?_⟩⟩
    rw [Nat.add_assoc]
    refine h4 (k + j) u ?_
    have hj : j < n := by
      rcases Nat.lt_or_ge j n with h | h
      · exact h
      · rw [List.getElem?_eq_none (by rw [byts_len, hl]; omega)] at hu; cases hu
    rw [byts, List.getElem?_map, List.getElem?_take, if_pos hj, List.getElem?_drop] at hu
    rw [byts, List.getElem?_map]
    exact hu
theorem sl_part (w : World) (g off n c k : Nat) (hk : k + 64 ≤ c) : (Instr.slice 35 (.slice (some ⟨g, off, none⟩) n c) (some (.int .i64 (k : Int))) (some (.int .i64 ((k : Int) + 64))) none).run Try.prog w = .ok (.slice (some ⟨g, off + k, none⟩) 64 (c - k)) w := by
  have ht := Try.underlying35
  have hel : Try.prog.elem 35 = 5 := by simp [Program.elem, ht]
  rw [run_slice_lh (w := w) 35 (some ⟨g, off, none⟩) n c (by rw [hel]; exact ht) .i64 .i64 (k : Int) ((k : Int) + 64) (by omega) (by omega) (by omega), hel]
  have hs : (sizeOf 5).run Try.prog w = .ok 1 w := by
    obtain ⟨i, hi, _, hz1, _⟩ := info_parts infoB
    simp [sizeOf, typeInfo, hi, hz1]
  rw [hs]
  have hadd : (⟨g, off, none⟩ : Addr).add k = ⟨g, off + k, none⟩ := Addr.add_mid g off k
  show Result.ok (sliced (some ⟨g, off, none⟩) (k : Int).toNat ((k : Int) + 64).toNat c 1) w = _
  unfold sliced
  rw [Int.toNat_natCast, show ((k : Int) + 64).toNat = k + 64 by omega, if_neg (by omega), Option.map_some, Nat.mul_one, hadd, show k + 64 - k = 64 by omega]
set_option maxHeartbeats 8000000 in
set_option maxRecDepth 100000 in
theorem rsum_any {v : Value} {b : List UInt8} {w : World} (h : RdB w v b) (hl : b.length ≤ 900000) :
    Calls Try.prog 45 #[v] w fun e w' => e = .returned (.agg (byts (shaN b)).toArray) ∧ Fr0 w w' := by
  obtain ⟨Av, cv, rfl, hb1, hb2, hb3⟩ := h.form
  obtain ⟨nb, hnb⟩ : ∃ n, n = b.length := ⟨_, rfl⟩
  rw [← hnb] at h hl hb1
  have HR := Lib.hid h
  have HNB := Lib.hid hnb
  obtain ⟨z32, hz32⟩ : ∃ z, z = (byts (List.replicate 32 0)).toArray := ⟨_, rfl⟩
  have hrun : ∀ W : World, (Instr.alloc 32 true (.tuple #[])).run Try.prog W = .ok (.pointer (some ⟨W.heap.size, 0, none⟩)) (W.alloc (.cells z32 32)) := by rw [hz32]; exact fun _ => by kernel_rfl
  have HRUN := Lib.hid hrun
  have HZ := Lib.hid hz32
  have HRUN8 := Lib.hid (fun W : World => show (Instr.alloc 89 true (.tuple #[])).run Try.prog W = .ok (.pointer (some ⟨W.heap.size, 0, none⟩)) (W.alloc (.cells (wA 8 []) 89)) from by kernel_rfl)
  have HRUN64 := Lib.hid (fun W : World => show (Instr.alloc 91 true (.tuple #[])).run Try.prog W = .ok (.pointer (some ⟨W.heap.size, 0, none⟩)) (W.alloc (.cells (wA 64 []) 91)) from by kernel_rfl)
  have HS := Lib.hid (fun (k : Nat) (W : World) => rstart_any (k : Int) W)
  have HT := Lib.hid (fun W => rturns_any W)
  clear h hz32 hrun hnb
  rw [← HNB.out]
  go_enter Try.func45, Try.ntmps45
  go_upto_region 3 with (first
    | (refine list_alloc_blk rfl 32 rfl z32 HRUN.out ?_; intro g2 w0 hB hF hl2; have B2 := Lib.hid hB; have F0 := Lib.hid hF; have L2 := Lib.hid hl2; clear hB hF hl2)
    | (refine list_append_sl (base := w.heap.size) (d := []) (e := b) rfl _ _ rfl (SlO.new0 (F0.out).size) rfl (Nat.le_trans (F0.out).size (by simp)) ((HR.out).fr0 ((F0.out).alloc _)) rfl (by rw [← HNB.out]; simp; omega) ?_; intro A1 c1 w1 hS hF hK; have S1 := Lib.hid (show SlO w.heap.size w1 (.slice A1 nb c1) b from by rw [HNB.out]; exact hS); have F1 := Lib.hid ((SlO.new0 (F0.out).size).thenFr ((F0.out).alloc _) hF); have B3 := Lib.hid ((((B2.out).alloc _).fr hF (fun hk => by cases hk; exact absurd (B2.out).lt (Nat.lt_irrefl _)))); rw [show ([] : List UInt8).length + b.length = nb from by rw [HNB.out]; exact Nat.zero_add _]; clear hS hF hK)
    | (refine list_append_sl (base := w.heap.size) (d := b) (e := [128]) rfl _ _ rfl ((S1.out).fr0 ((Fr0.refl w1).alloc _)) rfl ?_ ?_ rfl ?_ ?_; · (have := (F1.out).size; simp; omega)
       · exact lit_bytes w1 5 [128] (by simp) (0, 0)
       · (have := HNB.out; simp; omega)
       intro A2 c2 w2 hS hF hK; have S2 := Lib.hid hS; have B4 := Lib.hid (((B3.out).alloc _).fr hF (fun hk => (S1.out).ne B3.out (by decide) _ hk rfl)); have F2 := Lib.hid (((S1.out).fr0 ((Fr0.refl w1).alloc _)).thenFr ((F1.out).alloc _) (show Fr (inBlk (.slice A1 nb c1)) _ w2 from hF)); rw [show b.length + [(128 : UInt8)].length = nb + 1 from by rw [HNB.out]; rfl]; clear hS hF hK))
  have hl2 := L2.out
  go_wp2_with fail
  go_loopg [3] (padN nb) (fun gk v3 wr => ∃ (j : Nat) (A : Option Addr) (m c : Nat), j + gk = padN nb ∧ m = nb + 1 + j ∧ v3 = .slice A m c ∧ SlO w.heap.size wr (.slice A m c) (b ++ 128 :: List.replicate j 0) ∧ Blk wr g2 z32 32 ∧ Fr0 w wr)
  case atStart =>
    refine ⟨0, A2, nb + 1, c2, by omega, rfl, rfl, ?_, B4.out, F2.out⟩
    have h := S2.out
    rw [show (b ++ [(128 : UInt8)]).length = nb + 1 from by rw [HNB.out]; simp] at h
    exact h
  case round =>
    obtain ⟨j, A, m, c, hj, hm, rfl, hS, hB, hF⟩ := hrel
    have HS1 := Lib.hid hS
    have HB := Lib.hid hB
    have HF := Lib.hid hF
    have hp64 : padN nb < 64 := by unfold padN; omega
    have hm0 : (0 : Int) ≤ (m : Int) := by omega
    have t1 : (m : Int).tmod 64 = ((m % 64 : Nat) : Int) := by rw [Int.tmod_eq_emod_of_nonneg hm0]; omega
    have hmb : m ≤ 900064 := by omega
    by_cases hlt : 0 < gk
    · have hne : m % 64 ≠ 56 := by rw [hm]; exact pad_not nb j (by omega)
      have q1 : (((m % 64 : Nat) : Int) != 56) = true := by simp; omega
      have q2 : (m % 64 != 56) = true := by simpa using hne
      have HJ := Lib.hid hj
      have HM := Lib.hid hm
      have HGK := Lib.hid hlt
      have HML := Lib.hid (show m = (b ++ 128 :: List.replicate j 0).length by rw [hm]; have := HNB.out; simp; omega)
      have HMB := Lib.hid hmb
      clear hj hm hS hB hF hlt hne hmb
      go_wp2_with (first
        | (refine list_append_sl (base := w.heap.size) (d := b ++ 128 :: List.replicate j 0) (e := [0]) rfl _ _ rfl ((HS1.out).fr0 ((Fr0.refl wr).alloc _)) rfl ?_ ?_ rfl ?_ ?_; · (have := (HF.out).size; simp; omega)
           · exact lit_bytes wr 5 [0] (by simp) (0, 0)
           · (have h1 := HML.out; have h2 := HMB.out; rw [← h1]; simp; omega)
           intro A3 c3 w3 hS hF hK; have S3 := Lib.hid hS; have B3' := Lib.hid (((HB.out).alloc _).fr hF (fun hk => (HS1.out).ne HB.out (by decide) _ hk rfl)); have F3 := Lib.hid (((HS1.out).fr0 ((Fr0.refl wr).alloc _)).thenFr ((HF.out).alloc _) hF); rw [show (b ++ (128 : UInt8) :: List.replicate j (0 : UInt8)).length + [(0 : UInt8)].length = m + 1 from by rw [← HML.out]; rfl]; clear hS hF hK))
      go_roundg (gk - 1)
      case measure => have := HGK.out; omega
      case rel =>
        have h := S3.out
        have hj := HJ.out
        have hm := HM.out
        have hgk := HGK.out
        rw [show (b ++ 128 :: List.replicate j 0) ++ [0] = b ++ 128 :: List.replicate (j + 1) 0 from by rw [List.append_assoc, List.cons_append, ← List.replicate_succ']] at h
        rw [show (b ++ (128 : UInt8) :: List.replicate (j + 1) (0 : UInt8)).length = m + 1 from by rw [hm]; have := HNB.out; simp; omega] at h
        exact ⟨j + 1, A3, m + 1, c3, by omega, by omega, rfl, h, B3'.out, F3.out⟩
    · have hj0 : j = padN nb := by omega
      subst hj0
      have hm56 : m % 64 = 56 := by rw [hm]; exact pad_end nb
      have q1 : (((m % 64 : Nat) : Int) != 56) = false := by rw [hm56]; rfl
      have q2 : (m % 64 != 56) = false := by rw [hm56]; rfl
      have q3 : ((m : Int) % 64 != 56) = false := by rw [show (m : Int) % 64 = 56 by omega]; rfl
      have HML := Lib.hid (show m = (b ++ 128 :: List.replicate (padN nb) 0).length by rw [hm]; have := HNB.out; simp; omega)
      have HMV := Lib.hid hm
      clear hj hm hS hB hF hlt hm56 S1 B3 F1 S2 B4 F2 F0 B2 L2
      go_wp2_with fail
      go_loopw [3, 5] (fun v3 v5 wr => ∃ (k : Nat) (i : Int) (A : Option Addr) (m2 c : Nat), k ≤ 8 ∧ v5 = .int .i64 i ∧ Hid (i = 7 - (k : Int)) ∧ Hid (m2 = m + k) ∧ v3 = .slice A m2 c ∧ SlO w.heap.size wr (.slice A m2 c) (b ++ 128 :: (List.replicate (padN nb) 0 ++ (lenB nb).take k)) ∧ Blk wr g2 z32 32 ∧ Fr0 w wr) (fun _ v5 _ => (intOf v5 + 1).toNat)
      case atStart =>
        refine ⟨0, 7, A, m, c, by omega, rfl, Lib.hid rfl, Lib.hid rfl, rfl, ?_, HB.out, HF.out⟩
        have h := HS1.out
        rw [List.take_zero, List.append_nil]
        exact h
      case round =>
        obtain ⟨k, i, A4, m2, c4, hk, rfl, hi, hm2, rfl, hS, hB, hF⟩ := hrel
        have KS := Lib.hid hS
        have KB := Lib.hid hB
        have KF := Lib.hid hF
        by_cases hlt : k < 8
        · have LB := Lib.hid (lenB_at nb k hlt (by omega))
          have BI := Lib.hid (byte_int (nb * 8 / 2 ^ (56 - 8 * k)))
          obtain ⟨dd, hdd⟩ : ∃ dd, dd = b ++ 128 :: (List.replicate (padN nb) 0 ++ (lenB nb).take k) := ⟨_, rfl⟩
          have hdl : dd.length = m2 := by
            have h8 : ((lenB nb).take k).length = k := by rw [List.length_take, lenB_len]; omega
            rw [hdd, hm2.out, HML.out]
            simp only [List.length_append, List.length_cons, List.length_replicate, h8]
            omega
          have hm2b : m2 ≤ 900080 := by rw [hm2.out]; omega
          rw [← hdd] at KS
          obtain ⟨bk, hbk⟩ : ∃ x, x = UInt8.ofNat (nb * 8 / 2 ^ (56 - 8 * k)) := ⟨_, rfl⟩
          rw [← hbk] at LB BI
          have HDD := Lib.hid hdd
          have HDL := Lib.hid hdl
          have HM2 := Lib.hid hm2b
          have hii := hi.out
          have hbi := BI.out
          have KP := Lib.hid (fun (A5 : Option Addr) (c5 : Nat) (w5 : World) (h : SlO w.heap.size w5 (.slice A5 (dd ++ [bk]).length c5) (dd ++ [bk])) => show SlO w.heap.size w5 (.slice A5 (m2 + 1) c5) (b ++ 128 :: (List.replicate (padN nb) 0 ++ (lenB nb).take (k + 1))) from by
            have e : dd ++ [bk] = b ++ 128 :: (List.replicate (padN nb) 0 ++ (lenB nb).take (k + 1)) := by
              rw [HDD.out, LB.out]; simp
            have e2 : (dd ++ [bk]).length = m2 + 1 := by simp [HDL.out]
            rw [e2] at h
            rw [← e]
            exact h)
          clear hS hB hF hk hdd hdl hm2b hbk t1 q1 q2 q3
          rcases (by omega : k = 0 ∨ k = 1 ∨ k = 2 ∨ k = 3 ∨ k = 4 ∨ k = 5 ∨ k = 6 ∨ k = 7) with rfl | rfl | rfl | rfl | rfl | rfl | rfl | rfl
          · obtain rfl : i = 7 := by omega
            have ev : (nb : Int) * 8 / 72057594037927936 = (bk.toNat : Int) := by rw [hbi]; omega
            clear hi hii hbi BI hlt
            go_wp2_with (first
              | (refine list_append_sl (base := w.heap.size) (d := dd) (e := [bk]) rfl _ _ rfl ((KS.out).fr0 ((Fr0.refl wr).alloc _)) rfl ?_ ?_ rfl ?_ ?_; · (have := (KF.out).size; simp; omega)
                 · exact lit_bytes wr 5 [bk] (by simp) (0, 0)
                 · (have h1 := HDL.out; have h2 := HM2.out; rw [h1]; simp; omega)
                 intro A5 c5 w5 hS hF hK; have S5 := Lib.hid (KP.out _ _ _ hS); have B5 := Lib.hid (((KB.out).alloc _).fr hF (fun hk => (KS.out).ne KB.out (by decide) _ hk rfl)); have F5 := Lib.hid (((KS.out).fr0 ((Fr0.refl wr).alloc _)).thenFr ((KF.out).alloc _) hF); rw [show dd.length + [bk].length = m2 + 1 from by rw [HDL.out]; rfl]; clear hS hF hK))
            go_roundw
            case measure => simp [intOf]
            case rel => exact ⟨1, 6, A5, m2 + 1, c5, by omega, rfl, Lib.hid (by decide), Lib.hid (by rw [hm2.out]), rfl, S5.out, B5.out, F5.out⟩
          · obtain rfl : i = 6 := by omega
            have ev : (nb : Int) * 8 / 281474976710656 = (bk.toNat : Int) := by rw [hbi]; omega
            clear hi hii hbi BI hlt
            go_wp2_with (first
              | (refine list_append_sl (base := w.heap.size) (d := dd) (e := [bk]) rfl _ _ rfl ((KS.out).fr0 ((Fr0.refl wr).alloc _)) rfl ?_ ?_ rfl ?_ ?_; · (have := (KF.out).size; simp; omega)
                 · exact lit_bytes wr 5 [bk] (by simp) (0, 0)
                 · (have h1 := HDL.out; have h2 := HM2.out; rw [h1]; simp; omega)
                 intro A5 c5 w5 hS hF hK; have S5 := Lib.hid (KP.out _ _ _ hS); have B5 := Lib.hid (((KB.out).alloc _).fr hF (fun hk => (KS.out).ne KB.out (by decide) _ hk rfl)); have F5 := Lib.hid (((KS.out).fr0 ((Fr0.refl wr).alloc _)).thenFr ((KF.out).alloc _) hF); rw [show dd.length + [bk].length = m2 + 1 from by rw [HDL.out]; rfl]; clear hS hF hK))
            go_roundw
            case measure => simp [intOf]
            case rel => exact ⟨2, 5, A5, m2 + 1, c5, by omega, rfl, Lib.hid (by decide), Lib.hid (by rw [hm2.out]), rfl, S5.out, B5.out, F5.out⟩
          · obtain rfl : i = 5 := by omega
            have ev : (nb : Int) * 8 / 1099511627776 = (bk.toNat : Int) := by rw [hbi]; omega
            clear hi hii hbi BI hlt
            go_wp2_with (first
              | (refine list_append_sl (base := w.heap.size) (d := dd) (e := [bk]) rfl _ _ rfl ((KS.out).fr0 ((Fr0.refl wr).alloc _)) rfl ?_ ?_ rfl ?_ ?_; · (have := (KF.out).size; simp; omega)
                 · exact lit_bytes wr 5 [bk] (by simp) (0, 0)
                 · (have h1 := HDL.out; have h2 := HM2.out; rw [h1]; simp; omega)
                 intro A5 c5 w5 hS hF hK; have S5 := Lib.hid (KP.out _ _ _ hS); have B5 := Lib.hid (((KB.out).alloc _).fr hF (fun hk => (KS.out).ne KB.out (by decide) _ hk rfl)); have F5 := Lib.hid (((KS.out).fr0 ((Fr0.refl wr).alloc _)).thenFr ((KF.out).alloc _) hF); rw [show dd.length + [bk].length = m2 + 1 from by rw [HDL.out]; rfl]; clear hS hF hK))
            go_roundw
            case measure => simp [intOf]
            case rel => exact ⟨3, 4, A5, m2 + 1, c5, by omega, rfl, Lib.hid (by decide), Lib.hid (by rw [hm2.out]), rfl, S5.out, B5.out, F5.out⟩
          · obtain rfl : i = 4 := by omega
            have ev : (nb : Int) * 8 / 4294967296 = (bk.toNat : Int) := by rw [hbi]; omega
            clear hi hii hbi BI hlt
            go_wp2_with (first
              | (refine list_append_sl (base := w.heap.size) (d := dd) (e := [bk]) rfl _ _ rfl ((KS.out).fr0 ((Fr0.refl wr).alloc _)) rfl ?_ ?_ rfl ?_ ?_; · (have := (KF.out).size; simp; omega)
                 · exact lit_bytes wr 5 [bk] (by simp) (0, 0)
                 · (have h1 := HDL.out; have h2 := HM2.out; rw [h1]; simp; omega)
                 intro A5 c5 w5 hS hF hK; have S5 := Lib.hid (KP.out _ _ _ hS); have B5 := Lib.hid (((KB.out).alloc _).fr hF (fun hk => (KS.out).ne KB.out (by decide) _ hk rfl)); have F5 := Lib.hid (((KS.out).fr0 ((Fr0.refl wr).alloc _)).thenFr ((KF.out).alloc _) hF); rw [show dd.length + [bk].length = m2 + 1 from by rw [HDL.out]; rfl]; clear hS hF hK))
            go_roundw
            case measure => simp [intOf]
            case rel => exact ⟨4, 3, A5, m2 + 1, c5, by omega, rfl, Lib.hid (by decide), Lib.hid (by rw [hm2.out]), rfl, S5.out, B5.out, F5.out⟩
          · obtain rfl : i = 3 := by omega
            have ev : (nb : Int) * 8 / 16777216 = (bk.toNat : Int) := by rw [hbi]; omega
            clear hi hii hbi BI hlt
            go_wp2_with (first
              | (refine list_append_sl (base := w.heap.size) (d := dd) (e := [bk]) rfl _ _ rfl ((KS.out).fr0 ((Fr0.refl wr).alloc _)) rfl ?_ ?_ rfl ?_ ?_; · (have := (KF.out).size; simp; omega)
                 · exact lit_bytes wr 5 [bk] (by simp) (0, 0)
                 · (have h1 := HDL.out; have h2 := HM2.out; rw [h1]; simp; omega)
                 intro A5 c5 w5 hS hF hK; have S5 := Lib.hid (KP.out _ _ _ hS); have B5 := Lib.hid (((KB.out).alloc _).fr hF (fun hk => (KS.out).ne KB.out (by decide) _ hk rfl)); have F5 := Lib.hid (((KS.out).fr0 ((Fr0.refl wr).alloc _)).thenFr ((KF.out).alloc _) hF); rw [show dd.length + [bk].length = m2 + 1 from by rw [HDL.out]; rfl]; clear hS hF hK))
            go_roundw
            case measure => simp [intOf]
            case rel => exact ⟨5, 2, A5, m2 + 1, c5, by omega, rfl, Lib.hid (by decide), Lib.hid (by rw [hm2.out]), rfl, S5.out, B5.out, F5.out⟩
          · obtain rfl : i = 2 := by omega
            have ev : (nb : Int) * 8 / 65536 = (bk.toNat : Int) := by rw [hbi]; omega
            clear hi hii hbi BI hlt
            go_wp2_with (first
              | (refine list_append_sl (base := w.heap.size) (d := dd) (e := [bk]) rfl _ _ rfl ((KS.out).fr0 ((Fr0.refl wr).alloc _)) rfl ?_ ?_ rfl ?_ ?_; · (have := (KF.out).size; simp; omega)
                 · exact lit_bytes wr 5 [bk] (by simp) (0, 0)
                 · (have h1 := HDL.out; have h2 := HM2.out; rw [h1]; simp; omega)
                 intro A5 c5 w5 hS hF hK; have S5 := Lib.hid (KP.out _ _ _ hS); have B5 := Lib.hid (((KB.out).alloc _).fr hF (fun hk => (KS.out).ne KB.out (by decide) _ hk rfl)); have F5 := Lib.hid (((KS.out).fr0 ((Fr0.refl wr).alloc _)).thenFr ((KF.out).alloc _) hF); rw [show dd.length + [bk].length = m2 + 1 from by rw [HDL.out]; rfl]; clear hS hF hK))
            go_roundw
            case measure => simp [intOf]
            case rel => exact ⟨6, 1, A5, m2 + 1, c5, by omega, rfl, Lib.hid (by decide), Lib.hid (by rw [hm2.out]), rfl, S5.out, B5.out, F5.out⟩
          · obtain rfl : i = 1 := by omega
            have ev : ((nb : Int) * 8 / 256) % 256 = (bk.toNat : Int) := by rw [hbi]; omega
            clear hi hii hbi BI hlt
            go_wp2_with (first
              | (refine list_append_sl (base := w.heap.size) (d := dd) (e := [bk]) rfl _ _ rfl ((KS.out).fr0 ((Fr0.refl wr).alloc _)) rfl ?_ ?_ rfl ?_ ?_; · (have := (KF.out).size; simp; omega)
                 · exact lit_bytes wr 5 [bk] (by simp) (0, 0)
                 · (have h1 := HDL.out; have h2 := HM2.out; rw [h1]; simp; omega)
                 intro A5 c5 w5 hS hF hK; have S5 := Lib.hid (KP.out _ _ _ hS); have B5 := Lib.hid (((KB.out).alloc _).fr hF (fun hk => (KS.out).ne KB.out (by decide) _ hk rfl)); have F5 := Lib.hid (((KS.out).fr0 ((Fr0.refl wr).alloc _)).thenFr ((KF.out).alloc _) hF); rw [show dd.length + [bk].length = m2 + 1 from by rw [HDL.out]; rfl]; clear hS hF hK))
            go_roundw
            case measure => simp [intOf]
            case rel => exact ⟨7, 0, A5, m2 + 1, c5, by omega, rfl, Lib.hid (by decide), Lib.hid (by rw [hm2.out]), rfl, S5.out, B5.out, F5.out⟩
          · obtain rfl : i = 0 := by omega
            have ev : ((nb : Int) * 8) % 256 = (bk.toNat : Int) := by rw [hbi]; omega
            clear hi hii hbi BI hlt
            go_wp2_with (first
              | (refine list_append_sl (base := w.heap.size) (d := dd) (e := [bk]) rfl _ _ rfl ((KS.out).fr0 ((Fr0.refl wr).alloc _)) rfl ?_ ?_ rfl ?_ ?_; · (have := (KF.out).size; simp; omega)
                 · exact lit_bytes wr 5 [bk] (by simp) (0, 0)
                 · (have h1 := HDL.out; have h2 := HM2.out; rw [h1]; simp; omega)
                 intro A5 c5 w5 hS hF hK; have S5 := Lib.hid (KP.out _ _ _ hS); have B5 := Lib.hid (((KB.out).alloc _).fr hF (fun hk => (KS.out).ne KB.out (by decide) _ hk rfl)); have F5 := Lib.hid (((KS.out).fr0 ((Fr0.refl wr).alloc _)).thenFr ((KF.out).alloc _) hF); rw [show dd.length + [bk].length = m2 + 1 from by rw [HDL.out]; rfl]; clear hS hF hK))
            go_roundw
            case measure => simp [intOf]
            case rel => exact ⟨8, -1, A5, m2 + 1, c5, by omega, rfl, Lib.hid (by decide), Lib.hid (by rw [hm2.out]), rfl, S5.out, B5.out, F5.out⟩
        · obtain rfl : k = 8 := by omega
          have hi8 := hi.out
          obtain rfl : i = -1 := by omega
          have hm8 := hm2.out
          have hpl := padded_len b
          have hplen : m2 = (padded b).length := by
            unfold padded
            rw [hm8, HML.out, HNB.out]
            simp only [List.length_append, List.length_cons, List.length_replicate, lenB_len]
            omega
          have HPD := Lib.hid (show SlO w.heap.size wr (.slice A4 m2 c4) (padded b) from by
            have h := KS.out
            rw [show (lenB nb).take 8 = lenB nb from rfl] at h
            unfold padded
            rw [← HNB.out]
            exact h)
          have hm2b : m2 ≤ 900080 := by omega
          obtain ⟨nbk, hnbk⟩ : ∃ n, n = m2 / 64 := ⟨_, rfl⟩
          have hmn : m2 = 64 * nbk := by rw [hnbk]; omega
          have HPL := Lib.hid hplen
          have HMN := Lib.hid hmn
          have HM2B := Lib.hid hm2b
          clear hi hi8 hm2 hlt hk hS hB hF hm8 hpl hplen hm2b hnbk hmn KS HS1 HML HMV t1 q1 q2 q3 hmb
          go_upto_region 11 with (refine list_alloc_blk rfl 89 rfl (wA 8 []) HRUN8.out ?_; intro g6 w6 hB hF hl6; have B6 := Lib.hid hB; have P6 := Lib.hid ((HPD.out).fr0 hF); have G6 := Lib.hid ((KB.out).fr0 hF); have F6 := Lib.hid (Fr0.trans KF.out hF); have L6 := Lib.hid hl6; have z6 := hF.size; clear hB hF hl6)
          have hg26 := (KB.out).lt
          have hl6 := L6.out
          have hwr := (KF.out).size
          go_wp2_with fail
          go_loopw [7] (fun v7 wq => ∃ k : Nat, k ≤ 8 ∧ v7 = .int .i64 k ∧ SlO w.heap.size wq (.slice A4 m2 c4) (padded b) ∧ Blk wq g6 (wA 8 (startL.take k)) 89 ∧ Blk wq g2 z32 32 ∧ Fr0 w wq ∧ w6.heap.size ≤ wq.heap.size) (fun v7 _ => 8 - (intOf v7).toNat)
          case atStart => exact ⟨0, by omega, rfl, P6.out, by have h := B6.out; exact h, G6.out, F6.out, Nat.le_refl _⟩
          case round =>
            obtain ⟨k, hk, rfl, hP, hB, hG, hF, hz⟩ := hrel
            have QP := Lib.hid hP
            have QB := Lib.hid hB
            have QG := Lib.hid hG
            have QF := Lib.hid hF
            by_cases hlt : k < 8
            · have e1 : startI k = (startN k : Int) := startI_at k (by omega)
              have HSK := Lib.hid (fun W => HS.out k W)
              rw [e1] at HSK
              have i0 : (0 : Int) ≤ (k : Int) := by omega
              have i1 : (k : Int) < 8 := by omega
              clear hP hB hG hF e1
              go_wp2_with (go_at_call 58; refine (HSK.out _).mono ?_; rintro e w7 ⟨rfl, hf⟩; have P7 := Lib.hid ((QP.out).fr0 hf); have B7 := Lib.hid ((QB.out).fr0 hf); have G7 := Lib.hid ((QG.out).fr0 hf); have F7 := Lib.hid (Fr0.trans QF.out hf); have z7 := Nat.le_trans hz hf.size; have d7 := (B7.out).cell k (wA_at hlt); have f7 := (B7.out).free k; clear hf)
              go_roundw
              case measure => simp [intOf]; omega
              case rel =>
                have hB := (B7.out).set k (.int .u32 (startN k : Int))
                have hl : (startL.take k).length = k := by rw [List.length_take, startL_len]; omega
                have hp := wA_push (n := 8) (l := startL.take k) (by omega) (startN k)
                rw [hl] at hp
                rw [hp, ← startL_at hlt] at hB
                have fr := (Fr1.refl g6 w7).set k (.int .u32 (startN k : Int))
                exact ⟨k + 1, by omega, by go_num, (P7.out).fr1 fr B7.out (by decide), hB, (G7.out).fr1 fr (by omega), Fr0.new F7.out fr (by omega), Nat.le_trans z7 fr.size⟩
            · obtain rfl : k = 8 := by omega
              have hstart : wA 8 (startL.take 8) = h8c startH := by
                rw [List.take_of_length_le (Nat.le_of_eq startL_len), ← startL_eq]
                rfl
              rw [hstart] at QB
              have hi64 : (Try.prog.info? 91).map (·.size) = some (wA 64 turnL).size := by rw [wA_size (Nat.le_of_eq turnL_len)]; kernel_rfl
              have ho64 : (wA 64 []).size = (wA 64 turnL).size := by rw [wA_size (l := turnL) (Nat.le_of_eq turnL_len), wA_size (l := []) (Nat.zero_le _)]
              have h64 := wA_one 64 turnL
              obtain ⟨ks, hks⟩ : ∃ ks, ks = wA 64 turnL := ⟨_, rfl⟩
              rw [← hks] at HT hi64 ho64 h64
              have HKS := Lib.hid hks
              clear hstart hP hB hG hF hlt hk hks
              go_upto_region 16 with (first
                | (go_at_call 59; refine (HT.out _).mono ?_; rintro e w7 ⟨rfl, hf⟩; have P7 := Lib.hid ((QP.out).fr0 hf); have B7 := Lib.hid ((QB.out).fr0 hf); have G7 := Lib.hid ((QG.out).fr0 hf); have F7 := Lib.hid (Fr0.trans QF.out hf); have z7 := Nat.le_trans hz hf.size; clear hf)
                | (refine list_alloc_blk rfl 91 rfl (wA 64 []) HRUN64.out ?_; intro g8 w8 hB hF hl8; have K8 := Lib.hid hB; have P8 := Lib.hid ((P7.out).fr0 hF); have B8 := Lib.hid ((B7.out).fr0 hF); have G8 := Lib.hid ((G7.out).fr0 hF); have F8 := Lib.hid (Fr0.trans F7.out hF); have L8 := Lib.hid hl8; clear hB hF hl8)
                | (refine list_store_blk rfl 91 _ _ rfl g8 ks rfl rfl 91 (wA 64 []) K8.out hi64 ho64 h64 ?_; intro w9 hB hF; have K9 := Lib.hid hB; have P9 := Lib.hid ((P8.out).fr1 hF K8.out (by decide)); have B9 := Lib.hid ((B8.out).fr1 hF (fun e => by have := (B7.out).lt; have := L8.out; omega)); have G9 := Lib.hid ((G8.out).fr1 hF (fun e => by have := (G7.out).lt; have := L8.out; omega)); have F9 := Lib.hid (Fr0.new F8.out hF (by have := (F7.out).size; have := L8.out; omega)); clear hB hF))
              have h68 : g6 < g8 := by have := (B7.out).lt; have := L8.out; omega
              have h28 : g2 < g8 := by have := (G7.out).lt; have := L8.out; omega
              have h26 : g2 < g6 := by omega
              have hw6 : w.heap.size ≤ g6 := by omega
              have HI64 := Lib.hid hi64
              clear z7 hi64 ho64 h64
              go_wp2_with fail
              go_loopw [9] (fun v9 wq => ∃ (k ki : Nat), k ≤ nbk ∧ v9 = .int .i64 (ki : Int) ∧ Hid (ki = 64 * k) ∧ SlO w.heap.size wq (.slice A4 m2 c4) (padded b) ∧ Blk wq g6 (h8c (blocksN startH (padded b) turnL k)) 89 ∧ Blk wq g8 ks 91 ∧ Blk wq g2 z32 32 ∧ Fr0 w wq) (fun v9 _ => m2 - (intOf v9).toNat)
              case atStart => exact ⟨0, 0, Nat.zero_le _, rfl, Lib.hid rfl, P9.out, B9.out, K9.out, G9.out, F9.out⟩
              case round =>
                obtain ⟨k, ki, hk, rfl, hki, hP, hB, hKK, hG, hF⟩ := hrel
                have hkv := hki.out
                have hpl := HPL.out
                have hmn := HMN.out
                have hmb := HM2B.out
                have i0 : (0 : Int) ≤ (ki : Int) := by omega
                by_cases hlt : k < nbk
                · have UB := Lib.hid (Blk.drew hB)
                  have UK := Lib.hid (Blk.drew hKK)
                  have UP := Lib.hid (hP.fr0 ((Fr0.refl wr).drew))
                  have UG := Lib.hid (Blk.drew hG)
                  have UF := Lib.hid (Fr0.drew hF)
                  have FT := Lib.hid (Fr0.refl wr.drew)
                  have hk64 : ki + 64 ≤ m2 := by omega
                  have hdl : ki + 64 ≤ (padded b).length := by rw [← hpl]; exact hk64
                  obtain ⟨gs, os, hAs, hcs, hrd⟩ := SlO.cutAt (k := ki) (n := 64) (d := padded b) (A := A4) (c := c4) (by have h := UP.out; rw [hpl] at h; exact h) hdl (by omega)
                  subst hAs
                  have HSL := Lib.hid (fun W => sl_part W gs os m2 c4 ki hcs)
                  have hXok := blocksN_ok startH_ok (padded b) turnL k
                  have hl64 : (((padded b).drop ki).take 64).length = 64 := by rw [List.length_take, List.length_drop]; omega
                  have hZe := blocksN_succ startH (padded b) turnL k
                  rw [show k * 64 = ki by omega] at hZe
                  have hZ : ∃ Z, Z = blocksN startH (padded b) turnL (k + 1) := ⟨_, rfl⟩
                  obtain ⟨Z, hZ⟩ := hZ
                  rw [← hZ] at hZe
                  obtain ⟨X, hX⟩ : ∃ X, X = blocksN startH (padded b) turnL k := ⟨_, rfl⟩
                  rw [← hX] at hXok hZe UB
                  have HBK := Lib.hid (fun (W : World) (hf : Fr0 wr.drew W) => show Calls Try.prog 60 #[.agg (h8c X), .slice (some ⟨gs, os + ki, none⟩) 64 (c4 - ki), .agg ks] W (fun e w' => e = .returned (.agg (h8c Z)) ∧ Fr0 W w') from by
                    rw [HKS.out, hZe]
                    exact rblock_any hXok (hrd.fr0 hf) hl64)
                  have HZZ := Lib.hid hZ
                  have hi8 : (Try.prog.info? 89).map (·.size) = some (h8c X).size := by kernel_rfl
                  have hiZ : (Try.prog.info? 89).map (·.size) = some (h8c Z).size := by kernel_rfl
                  have HI8 := Lib.hid hi8
                  have HIZ := Lib.hid hiZ
                  clear hP hB hKK hG hF hkv hpl hmn hdl hcs hrd hXok hl64 hZe hZ hX hi8 hiZ
                  go_wp2_with fail
                  have hi8 := HI8.out
                  have hiZ := HIZ.out
                  have hi64 := HI64.out
                  have hwr64 : IntKind.i64.wrap ((ki : Int) + 64) = (ki : Int) + 64 := IntWalk.i64_in _ (by omega)
                  refine wp_region_held_drew (S := (fun W => Blk W g8 ks 91)) (by kernel_rfl) UK.out (fun hHeld => ?_)
                  have _hI : True := trivial
                  clear _hI
                  refine takeH (i := 1) rfl (by kernel_rfl) (by kernel_rfl) (by kernel_rfl) (fun _ _ _ h => h) (yields_move rfl _ rfl) UK.out ?_
                  try simp only [Act.put, List.setIfInBounds_toArray, List.set_cons_zero, List.set_cons_succ]
                  have _hI : True := trivial
                  clear _hI
                  refine takeH (i := 2) rfl (by kernel_rfl) (by kernel_rfl) (by kernel_rfl) (fun _ _ _ h => h) (yields_move rfl _ rfl) UK.out ?_
                  try simp only [Act.put, List.setIfInBounds_toArray, List.set_cons_zero, List.set_cons_succ]
                  have _hI : True := trivial
                  clear _hI
                  refine takeH (i := 3) rfl (by kernel_rfl) (by kernel_rfl) (by kernel_rfl) (fun _ _ _ h => h) (yields_move rfl _ rfl) UK.out ?_
                  try simp only [Act.put, List.setIfInBounds_toArray, List.set_cons_zero, List.set_cons_succ]
                  have _hI : True := trivial
                  clear _hI
                  refine takeH (i := 4) rfl (by kernel_rfl) (by kernel_rfl) (by kernel_rfl) (fun _ _ _ h => h) (v := .int .i64 ((ki : Int) + 64)) (.inl ⟨rfl, fun W _ => (by go_simp; try rfl)⟩) UK.out ?_
                  try simp only [Act.put, List.setIfInBounds_toArray, List.set_cons_zero, List.set_cons_succ]
                  have _hI : True := trivial
                  clear _hI
                  refine takeH (i := 5) rfl (by kernel_rfl) (by kernel_rfl) (by kernel_rfl) (fun _ _ _ h => h) (v := .slice (some ⟨gs, os + ki, none⟩) 64 (c4 - ki)) (.inl ⟨rfl, fun W _ => (by have h := HSL.out W; go_simp; try rfl)⟩) UK.out ?_
                  try simp only [Act.put, List.setIfInBounds_toArray, List.set_cons_zero, List.set_cons_succ]
                  have _hI : True := trivial
                  clear _hI
                  refine takeH (i := 6) rfl (by kernel_rfl) (by kernel_rfl) (by kernel_rfl) (fun _ _ _ h => h) (yields_load_blk rfl 91 _ rfl g8 rfl 91 ks (fun _ h => h) _ Try.underlying91 rfl hi64) UK.out ?_
                  try simp only [Act.put, List.setIfInBounds_toArray, List.set_cons_zero, List.set_cons_succ]
                  have _hI : True := trivial
                  clear _hI
                  refine wpAnyH_ready (rs := [0]) (by kernel_rfl) (by simp) (consH rfl rfl (fun K hK => ?_) AllReadyH.nil)
                  have _hI : True := trivial
                  clear _hI
                  refine wp_load_blk 89 _ rfl g6 rfl 89 (h8c X) UB.out _ Try.underlying89 rfl hi8 ?_
                  refine hK.out _ _ UK.out ?_
                  clear hK
                  try simp only [Act.put, List.setIfInBounds_toArray, List.set_cons_zero, List.set_cons_succ]
                  have _hI : True := trivial
                  clear _hI
                  refine wpAnyH_ready (rs := [7]) (by kernel_rfl) (by simp) (consH rfl rfl (fun K hK => ?_) AllReadyH.nil)
                  have _hI : True := trivial
                  clear _hI
                  go_simp
                  refine (HBK.out _ FT.out).mono ?_
                  rintro e w6 ⟨rfl, hf⟩
                  replace UB := Lib.hid ((UB.out).fr0 hf)
                  replace UK := Lib.hid ((UK.out).fr0 hf)
                  replace UP := Lib.hid ((UP.out).fr0 hf)
                  replace UG := Lib.hid ((UG.out).fr0 hf)
                  replace UF := Lib.hid (Fr0.trans UF.out hf)
                  clear hf
                  refine hK.out _ _ UK.out ?_
                  clear hK
                  try simp only [Act.put, List.setIfInBounds_toArray, List.set_cons_zero, List.set_cons_succ]
                  have _hI : True := trivial
                  clear _hI
                  refine wpAnyH_ready (rs := [8]) (by kernel_rfl) (by simp) (consH rfl rfl (fun K hK => ?_) AllReadyH.nil)
                  have _hI : True := trivial
                  clear _hI
                  refine wp_store_blk ?qty1 ?qex1 ?qey1 ?qho1 ?qgg1 ?qcc1 ?qhx1 ?qhy1 ?qtt1 ?qold1 ?qhb1 ?qhi1 ?qhd1 ?qh11 ?qre1
                  case qcc1 => exact (h8c Z)
                  case qty1 => exact 89
                  case qtt1 => exact 89
                  case qgg1 => exact g6
                  case qold1 => exact (h8c X)
                  case qex1 => exact (.tmp 6)
                  case qey1 => exact (.tmp 65)
                  case qho1 => rfl
                  case qhb1 => exact UB.out
                  case qhi1 => exact hiZ
                  case qhd1 => rfl
                  case qh11 => exact h8_one Z
                  case qhx1 => rfl
                  case qhy1 => rfl
                  intro V4 hB hf
                  have VB := Lib.hid hB
                  have VK := Lib.hid ((UK.out).fr1 hf (by omega))
                  have VP := Lib.hid ((UP.out).fr1 hf UB.out (by decide))
                  have VG := Lib.hid ((UG.out).fr1 hf (by omega))
                  have VF := Lib.hid (Fr0.new UF.out hf hw6)
                  clear hB hf
                  refine hK.out _ _ VK.out ?_
                  clear hK
                  try simp only [Act.put, List.setIfInBounds_toArray, List.set_cons_zero, List.set_cons_succ]
                  refine wpAnyH_done (by kernel_rfl) ?_ _
                  go_wp2_with fail
                  go_roundw
                  case measure => simp [intOf]; omega
                  case rel =>
                    have hkv := hki.out
                    have h := VB.out
                    rw [HZZ.out] at h
                    exact ⟨k + 1, ki + 64, by omega, by go_num, Lib.hid (by omega), VP.out, h, VK.out, VG.out, VF.out⟩
                · obtain rfl : k = nbk := by omega
                  have q4 : ¬ ((ki : Int) + 64 ≤ (m2 : Int)) := by omega
                  have hXs : blocksN startH (padded b) turnL k = hX (padded b) := by unfold hX; rw [← hpl, hmn]; congr 1; omega
                  rw [hXs] at hB
                  have HSHA := Lib.hid (sha_eq b)
                  obtain ⟨X, hX⟩ : ∃ X, X = hX (padded b) := ⟨_, rfl⟩
                  rw [← hX] at hB HSHA
                  have UB := Lib.hid hB
                  have UG := Lib.hid hG
                  have UF := Lib.hid hF
                  have zl32 := Lib.hid (outB_len X)
                  have HZA := Lib.hid (fun a b (ha : a < 8) (hb : b < 4) => outB_at X a b ha hb)
                  obtain ⟨zl, hzl⟩ : ∃ zl, zl = outB X := ⟨_, rfl⟩
                  rw [← hzl] at zl32 HZA HSHA
                  obtain ⟨yl, hyl⟩ : ∃ yl : List UInt8, yl = List.replicate 32 0 := ⟨_, rfl⟩
                  have yl32 := Lib.hid (show yl.length = 32 by rw [hyl]; rfl)
                  have hz2 := HZ.out
                  rw [← hyl] at hz2
                  have HZ2 := Lib.hid hz2
                  have q5 : decide ((ki : Int) + 64 ≤ (m2 : Int)) = false := decide_eq_false q4
                  have q6 : decide (ki + 64 ≤ m2) = false := by simp; omega
                  have q7 : m2 < ki + 64 := by omega
                  have q8 : ki ≤ 900080 := by omega
                  clear hkv hpl hmn hXs hX hzl hyl hz2 hP hB hKK hG hF hlt hk q4 hki
                  go_upto_region 21 with (refine list_alloc_blk rfl 32 rfl z32 HRUN.out ?_; intro g10 w10 hB hF hl10; have B10 := Lib.hid hB; have H10 := Lib.hid ((UB.out).fr0 hF); have G10 := Lib.hid ((UG.out).fr0 hF); have F10 := Lib.hid (Fr0.trans UF.out hF); have L10 := Lib.hid hl10; clear hB hF hl10)
                  have h610 : g6 < g10 := by have := (UB.out).lt; have := L10.out; omega
                  have h210 : g2 < g10 := by omega
                  have hw10 : w.heap.size ≤ g10 := by omega
                  go_wp2_with fail
                  go_loopw [11] (fun v11 wr => ∃ i : Nat, i ≤ 32 ∧ v11 = .int .i64 i ∧ Blk wr g10 (byts (zl.take i ++ yl.drop i)).toArray 32 ∧ Blk wr g6 (h8c X) 89 ∧ Blk wr g2 z32 32 ∧ Fr0 w wr) (fun v11 _ => 32 - (intOf v11).toNat)
                  case atStart => exact ⟨0, by omega, rfl, by have h := B10.out; rw [HZ2.out] at h; exact h, H10.out, G10.out, F10.out⟩
                  case round =>
                    obtain ⟨i, hi, rfl, h10, hp, h2, hfs⟩ := hrel
                    by_cases hlt : i < 32
                    · obtain ⟨a, b4, ha, hb4, hab⟩ : ∃ a b, a < 8 ∧ b < 4 ∧ i = 4 * a + b := ⟨i / 4, i % 4, by omega, by omega, by omega⟩
                      have P2 := Lib.hid hp
                      have G2 := Lib.hid h2
                      have FS := Lib.hid hfs
                      have i0 : (0 : Int) ≤ (i : Int) := by omega
                      have i1 : (i : Int) < 32 := by omega
                      have j0 : (0 : Int) ≤ (a : Int) := by omega
                      have j1 : (a : Int) < 8 := by omega
                      have t1 : (i : Int) / 4 = (a : Int) := by omega
                      have t2 : (i : Int) % 4 = (b4 : Int) := by omega
                      have t3 : (i : Int).tdiv 4 = (a : Int) := by rw [Int.tdiv_eq_ediv_of_nonneg i0]; exact t1
                      have t4 : (i : Int).tmod 4 = (b4 : Int) := by rw [Int.tmod_eq_emod_of_nonneg i0]; exact t2
                      have d0 := hp.cell a (v := .int .u32 ((X.list.getD a 0 : Nat) : Int)) (by rw [← h8_wA]; exact wA_at ha)
                      obtain ⟨o6, e6⟩ : ∃ o6, wr.cell? ⟨g10, i, none⟩ = some o6 := ⟨_, h10.cell i (Array.getElem?_eq_getElem (by rw [byts_size, List.length_append, List.length_take, List.length_drop, zl32.out, yl32.out]; omega))⟩
                      have f6 := h10.free i
                      have HBK := Lib.hid (show zl.getD i 0 = UInt8.ofNat (X.list.getD a 0 / 2 ^ (24 - 8 * b4)) by rw [hab]; exact (HZA.out) a b4 ha hb4)
                      obtain ⟨xa, hxa⟩ : ∃ xa, xa = X.list.getD a 0 := ⟨_, rfl⟩
                      rw [← hxa] at d0 HBK
                      have HN := Lib.hid (fun (bk : UInt8) (hlt : i < 32) (hbk : bk = zl.getD i 0) => show Blk (wr.setCell ⟨g10, i, none⟩ (.int .u8 (bk.toNat : Int))) g10 (byts (zl.take (i + 1) ++ yl.drop (i + 1))).toArray 32 from by
                        have h := h10.set i (.int .u8 (bk.toNat : Int))
                        rw [hbk, bhalf_set zl32.out yl32.out hlt] at h
                        rw [hbk]
                        exact h)
                      obtain ⟨bk, hbk⟩ : ∃ bk, bk = zl.getD i 0 := ⟨_, rfl⟩
                      rw [← hbk] at HBK
                      have HBE := Lib.hid hbk
                      clear hbk hxa h10 hp h2 hfs ha
                      rcases (by omega : b4 = 0 ∨ b4 = 1 ∨ b4 = 2 ∨ b4 = 3) with hb | hb | hb | hb
                      · obtain rfl : b4 = 0 := by omega
                        have ev : ((xa : Int) / 16777216) % 256 = (bk.toNat : Int) := by rw [HBK.out, byte_int]; omega
                        clear hab hb4
                        go_wp2_with fail
                        go_roundw
                        case measure => simp [intOf]; omega
                        case rel => exact ⟨i + 1, by omega, by go_num, HN.out _ hlt HBE.out, (P2.out).other (p := ⟨g10, i, none⟩) (by show g6 ≠ g10; omega) _, (G2.out).other (p := ⟨g10, i, none⟩) (by show g2 ≠ g10; omega) _, Fr.setCell (p := ⟨g10, i, none⟩) FS.out (.inr hw10) _⟩
                      · obtain rfl : b4 = 1 := by omega
                        have ev : ((xa : Int) / 65536) % 256 = (bk.toNat : Int) := by rw [HBK.out, byte_int]; omega
                        clear hab hb4
                        go_wp2_with fail
                        go_roundw
                        case measure => simp [intOf]; omega
                        case rel => exact ⟨i + 1, by omega, by go_num, HN.out _ hlt HBE.out, (P2.out).other (p := ⟨g10, i, none⟩) (by show g6 ≠ g10; omega) _, (G2.out).other (p := ⟨g10, i, none⟩) (by show g2 ≠ g10; omega) _, Fr.setCell (p := ⟨g10, i, none⟩) FS.out (.inr hw10) _⟩
                      · obtain rfl : b4 = 2 := by omega
                        have ev : ((xa : Int) / 256) % 256 = (bk.toNat : Int) := by rw [HBK.out, byte_int]; omega
                        clear hab hb4
                        go_wp2_with fail
                        go_roundw
                        case measure => simp [intOf]; omega
                        case rel => exact ⟨i + 1, by omega, by go_num, HN.out _ hlt HBE.out, (P2.out).other (p := ⟨g10, i, none⟩) (by show g6 ≠ g10; omega) _, (G2.out).other (p := ⟨g10, i, none⟩) (by show g2 ≠ g10; omega) _, Fr.setCell (p := ⟨g10, i, none⟩) FS.out (.inr hw10) _⟩
                      · obtain rfl : b4 = 3 := by omega
                        have ev : (xa : Int) % 256 = (bk.toNat : Int) := by rw [HBK.out, byte_int]; omega
                        clear hab hb4
                        go_wp2_with fail
                        go_roundw
                        case measure => simp [intOf]; omega
                        case rel => exact ⟨i + 1, by omega, by go_num, HN.out _ hlt HBE.out, (P2.out).other (p := ⟨g10, i, none⟩) (by show g6 ≠ g10; omega) _, (G2.out).other (p := ⟨g10, i, none⟩) (by show g2 ≠ g10; omega) _, Fr.setCell (p := ⟨g10, i, none⟩) FS.out (.inr hw10) _⟩
                    · obtain rfl : i = 32 := by omega
                      have e : zl.take 32 ++ yl.drop 32 = zl := by rw [List.take_of_length_le (by rw [zl32.out]; omega), List.drop_of_length_le (by rw [yl32.out]; omega), List.append_nil]
                      rw [e, ← HSHA.out] at h10
                      clear e hlt hi
                      have hl32 : (shaN b).length = 32 := by rw [HSHA.out]; exact zl32.out
                      have hz8 : z32.size = (byts (shaN b)).toArray.size := by rw [HZ2.out, byts_size, byts_size, yl32.out, hl32]
                      obtain ⟨sh, hsh⟩ : ∃ sh, sh = shaN b := ⟨_, rfl⟩
                      rw [← hsh] at h10 hl32 hz8
                      have HSH := Lib.hid hsh
                      clear hsh
                      have hi28 : (Try.prog.info? 32).map (·.size) = some (byts sh).toArray.size := by rw [byts_size, hl32]; kernel_rfl
                      have h1 := byts_all sh
                      obtain ⟨cs, hcs⟩ : ∃ cs, cs = (byts sh).toArray := ⟨_, rfl⟩
                      rw [← hcs] at h10 hi28 hz8 h1
                      have HCS := Lib.hid hcs
                      have HF9 := Lib.hid hfs
                      clear hcs hl32 hfs
                      repeat (first
                        | refine list_load_blk rfl 32 _ rfl g10 rfl 32 _ h10 _ Try.underlying32 rfl hi28 ?_
                        | (refine list_store_blk rfl 32 _ _ rfl g2 cs rfl rfl 32 _ h2 hi28 hz8 h1 ?_; intro W9 hB hF)
                        | go_values | go_skip | go_step)
                      refine bodyPost_ret (v := .agg cs) (results_cell_row rfl _ _ g2 32 cs (0, 0) _ rfl hB Try.underlying32 rfl hi28) rfl ⟨by rw [HCS.out, HSH.out], Fr0.new HF9.out hF hl2⟩
end Go.Proofs.Ytpmindbipclphaa
set_option linter.unusedSimpArgs false
namespace Go.Proofs.Ytpmindbipclphaa
open Go.RowKit

set_option maxHeartbeats 4000000 in
set_option maxRecDepth 10000 in
theorem rpad_any {v : Value} {key : List UInt8} {w : World} (x : UInt8) (h : RdB w v key) (hl : key.length ≤ 900000) :
    Calls Try.prog 46 #[v, .int .u8 (x.toNat : Int)] w fun e w' => ∃ A c, e = .returned (.slice A 64 c) ∧ SlO w.heap.size w' (.slice A 64 c) (blockN key x) ∧ Fr0 w w' := by
  obtain ⟨Av, cv, rfl, -, -, -⟩ := h.form
  have hxb : (x.toNat : Int) < 256 := by have := x.toNat_lt; omega
  have HKE := Lib.hid (show RdB w (.slice Av key.length cv) key from h)
  obtain ⟨nk, hnk⟩ : ∃ n, n = key.length := ⟨_, rfl⟩
  rw [← hnk] at hl ⊢
  have HNK := Lib.hid hnk
  by_cases hg : nk ≤ 64
  · have HKN := Lib.hid (show keyN key = key from keyN_small (by omega))
    rw [← hnk] at HKE
    clear hnk h
    go_enter Try.func46, Try.ntmps46
    go_upto_region 5 with (refine list_append_sl (base := w.heap.size) (d := []) (e := key) rfl _ _ rfl (SlO.new0 (Nat.le_refl _)) rfl (by simp) ((HKE.out).fr0 ((Fr0.refl w).alloc _)) rfl (by rw [← HNK.out]; simp; omega) ?_; intro A5 c5 w1 hS hF hK; have S5 := Lib.hid (show SlO w.heap.size w1 (.slice A5 (keyN key).length c5) (keyN key) from by rw [HKN.out]; exact hS); have F5 := Lib.hid ((SlO.new0 (Nat.le_refl _)).thenFr ((Fr0.refl w).alloc _) hF); rw [show ([] : List UInt8).length + key.length = (keyN key).length from by rw [HKN.out]; exact Nat.zero_add _]; clear hS hF hK)
    have KN := Lib.hid (keyN_le key)
    have PK := Lib.hid (padK_len key)
    have BK := Lib.hid (blockN_len key x)
    have HAT := Lib.hid (fun i (h : i < 64) => blockN_at key x i h)
    have HPD := Lib.hid (show padK key = keyN key ++ List.replicate (64 - (keyN key).length) 0 from rfl)
    obtain ⟨kn, hkn⟩ : ∃ k, k = keyN key := ⟨_, rfl⟩
    rw [← hkn] at S5 KN HPD ⊢
    obtain ⟨pl, hpl⟩ : ∃ p, p = padK key := ⟨_, rfl⟩
    rw [← hpl] at PK HPD HAT
    obtain ⟨bl, hbl⟩ : ∃ b, b = blockN key x := ⟨_, rfl⟩
    rw [← hbl] at BK HAT
    have HBL := Lib.hid hbl
    obtain ⟨kl, hkl⟩ : ∃ n, n = kn.length := ⟨_, rfl⟩
    rw [← hkl] at S5 KN HPD ⊢
    have kl64 := KN.out
    have HKL := Lib.hid hkl
    clear hkn hpl hbl hkl
    go_wp2_with fail
    go_loopw [5] (fun v5 wr => ∃ (m c : Nat) (A : Option Addr), kl ≤ m ∧ m ≤ 64 ∧ v5 = .slice A m c ∧ SlO w.heap.size wr (.slice A m c) (kn ++ List.replicate (m - kl) 0) ∧ Fr0 w wr) (fun v5 _ => 64 - (match v5 with | .slice _ m _ => m | _ => 0))
    case atStart => exact ⟨kl, c5, A5, Nat.le_refl _, kl64, rfl, by rw [Nat.sub_self, List.replicate_zero, List.append_nil]; exact S5.out, F5.out⟩
    case round =>
      obtain ⟨m, c, A, hm1, hm2, rfl, hS, hF⟩ := hrel
      by_cases hlt : m < 64
      · have KS := Lib.hid hS
        have KF := Lib.hid hF
        have KM := Lib.hid (show (kn ++ List.replicate (m - kl) (0 : UInt8)).length = m from by rw [List.length_append, List.length_replicate, ← HKL.out]; omega)
        clear hS hF
        go_wp2_with (first
          | (refine list_append_sl (base := w.heap.size) (d := kn ++ List.replicate (m - kl) 0) (e := [0]) rfl _ _ rfl ((KS.out).fr0 ((Fr0.refl wr).alloc _)) rfl ?_ ?_ rfl ?_ ?_; · (have := (KF.out).size; simp; omega)
             · exact lit_bytes wr 5 [0] (by simp) (0, 0)
             · (rw [KM.out]; simp; omega)
             intro A3 c3 w3 hS hF hK; have S3 := Lib.hid hS; have F3 := Lib.hid (((KS.out).fr0 ((Fr0.refl wr).alloc _)).thenFr ((KF.out).alloc _) hF); rw [show (kn ++ List.replicate (m - kl) (0 : UInt8)).length + [(0 : UInt8)].length = m + 1 from by rw [KM.out]; rfl]; clear hS hF hK))
        go_roundw
        case measure => simp; omega
        case rel =>
          have h := S3.out
          have e : (kn ++ List.replicate (m - kl) (0 : UInt8)) ++ [0] = kn ++ List.replicate (m + 1 - kl) 0 := by rw [List.append_assoc, ← List.replicate_succ', show m - kl + 1 = m + 1 - kl by omega]
          rw [show ((kn ++ List.replicate (m - kl) (0 : UInt8)) ++ [(0 : UInt8)]).length = m + 1 from by rw [List.length_append, KM.out]; rfl, e] at h
          exact ⟨m + 1, c3, A3, by omega, by omega, rfl, h, F3.out⟩
      · obtain rfl : m = 64 := by omega
        rw [← HPD.out] at hS
        have KS := Lib.hid hS
        have KF := Lib.hid hF
        clear hS hF hlt hm1 hm2
        go_wp2_with fail
        go_loopw [7] (fun v7 wr => ∃ i : Nat, i ≤ 64 ∧ v7 = .int .i64 i ∧ SlO w.heap.size wr (.slice A 64 c) (bl.take i ++ pl.drop i) ∧ Fr0 w wr) (fun v7 _ => 64 - (intOf v7).toNat)
        case atStart => exact ⟨0, by omega, rfl, KS.out, KF.out⟩
        case round =>
          obtain ⟨i, hi, rfl, hS, hF⟩ := hrel
          by_cases hlt : i < 64
          · have i0 : (0 : Int) ≤ (i : Int) := by omega
            have i1 : (i : Int) < 64 := by omega
            have hL : (bl.take i ++ pl.drop i).length = 64 := by rw [List.length_append, List.length_take, List.length_drop, BK.out, PK.out]; omega
            obtain ⟨g6, o6, u6, hA6, hjc, e6, f6, hput⟩ := hS.put (show i < (bl.take i ++ pl.drop i).length by omega)
            subst hA6
            obtain ⟨g7, o7, c7, hv7, _, _, d7⟩ := hS.rd.cell (show i < (bl.take i ++ pl.drop i).length by omega)
            injection hv7 with hA7 hn7 hc7
            injection hA7 with hA7
            injection hA7 with hg7 ho7
            subst hg7 ho7
            have hel : (bl.take i ++ pl.drop i)[i]'(by omega) = pl.getD i 0 := by
              have h := take_set_xor PK.out BK.out hlt
              rw [List.getElem?_toArray, byts_at _ i (by omega)] at h
              injection h with h
              injection h with _ h
              exact UInt8.toNat_inj.1 (by omega)
            rw [hel] at d7
            have hx := xor_u8 (pl.getD i 0) x
            rw [← (HAT.out) i hlt] at hx
            have hset : (bl.take i ++ pl.drop i).set i (bl.getD i 0) = bl.take (i + 1) ++ pl.drop (i + 1) := by
              have h1 : (bl.take i).length = i := by rw [List.length_take, BK.out]; omega
              have h2 : bl.take (i + 1) = bl.take i ++ [bl.getD i 0] := by rw [List.take_add_one, show bl[i]? = some (bl.getD i 0) from by simp [List.getD, BK.out, hlt]]; rfl
              have h3 : pl.drop i = pl.getD i 0 :: pl.drop (i + 1) := by rw [List.drop_eq_getElem_cons (by rw [PK.out]; exact hlt)]; simp [List.getD, PK.out, hlt]
              rw [h3, List.set_append_right _ _ (by omega), h1, Nat.sub_self, List.set_cons_zero, h2, List.append_assoc]
              rfl
            have HN := Lib.hid (hput (bl.getD i 0))
            rw [hset] at HN
            obtain ⟨pi, hpi⟩ : ∃ p, p = pl.getD i 0 := ⟨_, rfl⟩
            obtain ⟨bi, hbi⟩ : ∃ p, p = bl.getD i 0 := ⟨_, rfl⟩
            rw [← hpi] at d7 hx
            rw [← hbi] at hx HN
            have KS := Lib.hid hS
            have HF := Lib.hid hF
            clear hpi hbi hS hF hput hset hel hn7 hc7 hL e6
            go_wp2_with fail
            go_roundw
            case measure => simp [intOf]; omega
            case rel => exact ⟨i + 1, by omega, by go_num, (HN.out).1, (KS.out).thenFr HF.out (HN.out).2⟩
          · obtain rfl : i = 64 := by omega
            have e : bl.take 64 ++ pl.drop 64 = bl := by rw [List.take_of_length_le (by rw [BK.out]; omega), List.drop_of_length_le (by rw [PK.out]; omega), List.append_nil]
            rw [e, HBL.out] at hS
            clear e
            go_wp2_with fail
            go_ret
            exact ⟨A, c, rfl, hS, hF⟩

  · have HKN := Lib.hid (show keyN key = shaN key from keyN_great (by omega))
    have hgt : (64 : Int) < (nk : Int) := by omega
    have HSU := Lib.hid (fun (W : World) (hf : Fr0 w W) => show Calls Try.prog 45 #[.slice Av nk cv] W (fun e w' => e = .returned (.agg (byts (keyN key)).toArray) ∧ Fr0 W w') from by
      rw [HKN.out, hnk]
      exact rsum_any (h.fr0 hf) (by omega))
    have h32 : (keyN key).length = 32 := by rw [HKN.out]; exact sha_len key
    have hi32 := dig_info h32
    have ho32 := z32_size h32
    have ha32 := byts_all (keyN key)
    have HRUN32 := Lib.hid (fun W => z32_run W)
    obtain ⟨z32, hz32⟩ : ∃ z, z = z32A := ⟨_, rfl⟩
    rw [← hz32] at HRUN32 ho32
    obtain ⟨s0, hs0⟩ : ∃ s, s = (byts (keyN key)).toArray := ⟨_, rfl⟩
    rw [← hs0] at HSU hi32 ho32 ha32
    have HS0 := Lib.hid hs0
    have HI := Lib.hid hi32
    have HO := Lib.hid ho32
    have H32 := Lib.hid h32
    rw [← hnk] at HKE
    clear hnk h hz32 hs0 hi32 ho32 h32
    go_enter Try.func46, Try.ntmps46
    go_upto_region 5 with (first
      | (have _q := C4; refine list_append_sl (base := w.heap.size) (d := []) (e := keyN key) rfl _ _ rfl (SlO.new0 ((F4.out).size)) rfl (Nat.le_trans (F4.out).size (by simp)) (by
            have hb := C4.out
            rw [HS0.out] at hb
            have h := arr_rd hb (o := 0) (k := 32) (c := 32) (by rw [H32.out]; decide) (Nat.le_refl _) (by unfold maxLen; decide)
            rw [List.drop_zero, List.take_of_length_le (Nat.le_of_eq H32.out)] at h
            exact h.fr0 ((Fr0.refl _).alloc _)) rfl (by rw [H32.out]; decide) ?_; intro A5 c5 w5 hS hF hK; have S5 := Lib.hid (show SlO w.heap.size w5 (.slice A5 (keyN key).length c5) (keyN key) from hS); have F5 := Lib.hid ((SlO.new0 ((F4.out).size)).thenFr ((F4.out).alloc _) hF); rw [show ([] : List UInt8).length + (keyN key).length = (keyN key).length from Nat.zero_add _]; clear hS hF hK)
      | (refine list_append_sl (base := w.heap.size) (d := []) (e := key) rfl _ _ rfl (SlO.new0 (Nat.le_refl _)) rfl (by simp) ((HKE.out).fr0 ((Fr0.refl w).alloc _)) rfl (by rw [← HNK.out]; simp; omega) ?_; intro A1 c1 w1 hS hF hK; have F1 := Lib.hid ((SlO.new0 (Nat.le_refl _)).thenFr ((Fr0.refl w).alloc _) hF); rw [show ([] : List UInt8).length + key.length = nk from by rw [HNK.out]; exact Nat.zero_add _]; clear hS hF hK)
      | (go_at_call 45; refine (HSU.out _ F1.out).mono ?_; rintro e w2 ⟨rfl, hf⟩; have F2 := Lib.hid (Fr0.trans F1.out hf); clear hf)
      | (refine list_alloc_blk rfl 32 rfl z32 HRUN32.out ?_; intro g6 w3 hB hF hl6; have C3 := Lib.hid hB; have F3 := Lib.hid (Fr0.trans F2.out hF); have L6 := Lib.hid hl6; clear hB hF hl6)
      | (refine list_store_blk rfl 32 _ _ rfl g6 s0 rfl rfl 32 z32 C3.out HI.out HO.out ha32 ?_; intro w4 hB hF; have C4 := Lib.hid hB; have F4 := Lib.hid (Fr0.new F3.out hF (by have := (F2.out).size; have := L6.out; omega)); clear hB hF))
    have KN := Lib.hid (keyN_le key)
    have PK := Lib.hid (padK_len key)
    have BK := Lib.hid (blockN_len key x)
    have HAT := Lib.hid (fun i (h : i < 64) => blockN_at key x i h)
    have HPD := Lib.hid (show padK key = keyN key ++ List.replicate (64 - (keyN key).length) 0 from rfl)
    obtain ⟨kn, hkn⟩ : ∃ k, k = keyN key := ⟨_, rfl⟩
    rw [← hkn] at S5 KN HPD ⊢
    obtain ⟨pl, hpl⟩ : ∃ p, p = padK key := ⟨_, rfl⟩
    rw [← hpl] at PK HPD HAT
    obtain ⟨bl, hbl⟩ : ∃ b, b = blockN key x := ⟨_, rfl⟩
    rw [← hbl] at BK HAT
    have HBL := Lib.hid hbl
    obtain ⟨kl, hkl⟩ : ∃ n, n = kn.length := ⟨_, rfl⟩
    rw [← hkl] at S5 KN HPD ⊢
    have kl64 := KN.out
    have HKL := Lib.hid hkl
    clear hkn hpl hbl hkl
    go_wp2_with fail
    go_loopw [5] (fun v5 wr => ∃ (m c : Nat) (A : Option Addr), kl ≤ m ∧ m ≤ 64 ∧ v5 = .slice A m c ∧ SlO w.heap.size wr (.slice A m c) (kn ++ List.replicate (m - kl) 0) ∧ Fr0 w wr) (fun v5 _ => 64 - (match v5 with | .slice _ m _ => m | _ => 0))
    case atStart => exact ⟨kl, c5, A5, Nat.le_refl _, kl64, rfl, by rw [Nat.sub_self, List.replicate_zero, List.append_nil]; exact S5.out, F5.out⟩
    case round =>
      obtain ⟨m, c, A, hm1, hm2, rfl, hS, hF⟩ := hrel
      by_cases hlt : m < 64
      · have KS := Lib.hid hS
        have KF := Lib.hid hF
        have KM := Lib.hid (show (kn ++ List.replicate (m - kl) (0 : UInt8)).length = m from by rw [List.length_append, List.length_replicate, ← HKL.out]; omega)
        clear hS hF
        go_wp2_with (first
          | (refine list_append_sl (base := w.heap.size) (d := kn ++ List.replicate (m - kl) 0) (e := [0]) rfl _ _ rfl ((KS.out).fr0 ((Fr0.refl wr).alloc _)) rfl ?_ ?_ rfl ?_ ?_; · (have := (KF.out).size; simp; omega)
             · exact lit_bytes wr 5 [0] (by simp) (0, 0)
             · (rw [KM.out]; simp; omega)
             intro A3 c3 w3 hS hF hK; have S3 := Lib.hid hS; have F3 := Lib.hid (((KS.out).fr0 ((Fr0.refl wr).alloc _)).thenFr ((KF.out).alloc _) hF); rw [show (kn ++ List.replicate (m - kl) (0 : UInt8)).length + [(0 : UInt8)].length = m + 1 from by rw [KM.out]; rfl]; clear hS hF hK))
        go_roundw
        case measure => simp; omega
        case rel =>
          have h := S3.out
          have e : (kn ++ List.replicate (m - kl) (0 : UInt8)) ++ [0] = kn ++ List.replicate (m + 1 - kl) 0 := by rw [List.append_assoc, ← List.replicate_succ', show m - kl + 1 = m + 1 - kl by omega]
          rw [show ((kn ++ List.replicate (m - kl) (0 : UInt8)) ++ [(0 : UInt8)]).length = m + 1 from by rw [List.length_append, KM.out]; rfl, e] at h
          exact ⟨m + 1, c3, A3, by omega, by omega, rfl, h, F3.out⟩
      · obtain rfl : m = 64 := by omega
        rw [← HPD.out] at hS
        have KS := Lib.hid hS
        have KF := Lib.hid hF
        clear hS hF hlt hm1 hm2
        go_wp2_with fail
        go_loopw [7] (fun v7 wr => ∃ i : Nat, i ≤ 64 ∧ v7 = .int .i64 i ∧ SlO w.heap.size wr (.slice A 64 c) (bl.take i ++ pl.drop i) ∧ Fr0 w wr) (fun v7 _ => 64 - (intOf v7).toNat)
        case atStart => exact ⟨0, by omega, rfl, KS.out, KF.out⟩
        case round =>
          obtain ⟨i, hi, rfl, hS, hF⟩ := hrel
          by_cases hlt : i < 64
          · have i0 : (0 : Int) ≤ (i : Int) := by omega
            have i1 : (i : Int) < 64 := by omega
            have hL : (bl.take i ++ pl.drop i).length = 64 := by rw [List.length_append, List.length_take, List.length_drop, BK.out, PK.out]; omega
            obtain ⟨g6, o6, u6, hA6, hjc, e6, f6, hput⟩ := hS.put (show i < (bl.take i ++ pl.drop i).length by omega)
            subst hA6
            obtain ⟨g7, o7, c7, hv7, _, _, d7⟩ := hS.rd.cell (show i < (bl.take i ++ pl.drop i).length by omega)
            injection hv7 with hA7 hn7 hc7
            injection hA7 with hA7
            injection hA7 with hg7 ho7
            subst hg7 ho7
            have hel : (bl.take i ++ pl.drop i)[i]'(by omega) = pl.getD i 0 := by
              have h := take_set_xor PK.out BK.out hlt
              rw [List.getElem?_toArray, byts_at _ i (by omega)] at h
              injection h with h
              injection h with _ h
              exact UInt8.toNat_inj.1 (by omega)
            rw [hel] at d7
            have hx := xor_u8 (pl.getD i 0) x
            rw [← (HAT.out) i hlt] at hx
            have hset : (bl.take i ++ pl.drop i).set i (bl.getD i 0) = bl.take (i + 1) ++ pl.drop (i + 1) := by
              have h1 : (bl.take i).length = i := by rw [List.length_take, BK.out]; omega
              have h2 : bl.take (i + 1) = bl.take i ++ [bl.getD i 0] := by rw [List.take_add_one, show bl[i]? = some (bl.getD i 0) from by simp [List.getD, BK.out, hlt]]; rfl
              have h3 : pl.drop i = pl.getD i 0 :: pl.drop (i + 1) := by rw [List.drop_eq_getElem_cons (by rw [PK.out]; exact hlt)]; simp [List.getD, PK.out, hlt]
              rw [h3, List.set_append_right _ _ (by omega), h1, Nat.sub_self, List.set_cons_zero, h2, List.append_assoc]
              rfl
            have HN := Lib.hid (hput (bl.getD i 0))
            rw [hset] at HN
            obtain ⟨pi, hpi⟩ : ∃ p, p = pl.getD i 0 := ⟨_, rfl⟩
            obtain ⟨bi, hbi⟩ : ∃ p, p = bl.getD i 0 := ⟨_, rfl⟩
            rw [← hpi] at d7 hx
            rw [← hbi] at hx HN
            have KS := Lib.hid hS
            have HF := Lib.hid hF
            clear hpi hbi hS hF hput hset hel hn7 hc7 hL e6
            go_wp2_with fail
            go_roundw
            case measure => simp [intOf]; omega
            case rel => exact ⟨i + 1, by omega, by go_num, (HN.out).1, (KS.out).thenFr HF.out (HN.out).2⟩
          · obtain rfl : i = 64 := by omega
            have e : bl.take 64 ++ pl.drop 64 = bl := by rw [List.take_of_length_le (by rw [BK.out]; omega), List.drop_of_length_le (by rw [PK.out]; omega), List.append_nil]
            rw [e, HBL.out] at hS
            clear e
            go_wp2_with fail
            go_ret
            exact ⟨A, c, rfl, hS, hF⟩
end Go.Proofs.Ytpmindbipclphaa
set_option linter.unusedSimpArgs false
namespace Go.Proofs.Ytpmindbipclphaa
open Go.RowKit

set_option maxHeartbeats 4000000 in
set_option maxRecDepth 10000 in
theorem rof_any {kv tv : Value} {key text : List UInt8} {w : World} (hk : RdB w kv key) (hkl : key.length ≤ 900000) (ht : RdB w tv text) (htl : text.length ≤ 800000) :
    Calls Try.prog 30 #[kv, tv] w fun e w' => e = .returned (.agg (byts (macN key text)).toArray) ∧ Fr0 w w' := by
  obtain ⟨Ak, ck, rfl, -, -, -⟩ := hk.form
  obtain ⟨At, ct, rfl, -, -, -⟩ := ht.form
  have HT := Lib.hid (show RdB w (.slice At text.length ct) text from ht)
  have HP54 := Lib.hid (fun (W : World) (hf : Fr0 w W) => show Calls Try.prog 46 #[.slice Ak key.length ck, .int .u8 54] W (fun e w' => ∃ A c, e = .returned (.slice A 64 c) ∧ SlO W.heap.size w' (.slice A 64 c) (blockN key 54) ∧ Fr0 W w') from rpad_any 54 (hk.fr0 hf) hkl)
  have HP92 := Lib.hid (fun (W : World) (hf : Fr0 w W) => show Calls Try.prog 46 #[.slice Ak key.length ck, .int .u8 92] W (fun e w' => ∃ A c, e = .returned (.slice A 64 c) ∧ SlO W.heap.size w' (.slice A 64 c) (blockN key 92) ∧ Fr0 W w') from rpad_any 92 (hk.fr0 hf) hkl)
  have HRUN := Lib.hid (fun W => z32_run W)
  have b54 := blockN_len key 54
  have b92 := blockN_len key 92
  have ho2 := z32_size (macN_len key text)
  have hi2 := dig_info (macN_len key text)
  have ha2 := byts_all (macN key text)
  obtain ⟨ino, hin⟩ : ∃ i, i = shaN (blockN key 54 ++ text) := ⟨_, rfl⟩
  have hil : ino.length = 32 := by rw [hin]; exact shaN_len _
  have HRI := Lib.hid (fun (W : World) (v : Value) (h : RdB W v (blockN key 54 ++ text)) => show Calls Try.prog 45 #[v] W (fun e w' => e = .returned (.agg (byts ino).toArray) ∧ Fr0 W w') from by
    rw [hin]
    exact rsum_any h (by rw [List.length_append, b54]; omega))
  have HRS := Lib.hid (fun (W : World) (v : Value) (h : RdB W v (blockN key 92 ++ ino)) => show Calls Try.prog 45 #[v] W (fun e w' => e = .returned (.agg (byts (macN key text)).toArray) ∧ Fr0 W w') from by
    rw [show macN key text = shaN (blockN key 92 ++ ino) from by rw [hin]; rfl]
    exact rsum_any h (by rw [List.length_append, b92, hil]; decide))
  have ho1 := z32_size hil
  have hi1 := dig_info hil
  have ha1 := byts_all ino
  obtain ⟨so, hso⟩ : ∃ s, s = (byts (macN key text)).toArray := ⟨_, rfl⟩
  obtain ⟨si, hsi⟩ : ∃ s, s = (byts ino).toArray := ⟨_, rfl⟩
  obtain ⟨z32, hz32⟩ : ∃ z, z = z32A := ⟨_, rfl⟩
  obtain ⟨s92, hs92⟩ : ∃ s, s = blockN key 92 := ⟨_, rfl⟩
  obtain ⟨s54, hs54⟩ : ∃ s, s = blockN key 54 := ⟨_, rfl⟩
  rw [← hso] at HRS ho2 hi2 ha2
  rw [← hsi] at HRI ho1 hi1 ha1
  rw [← hz32] at HRUN ho1 ho2
  rw [← hs92] at HRS HP92 b92
  rw [← hs54] at HRI HP54 b54
  have HIO := Lib.hid hi2
  have HOO := Lib.hid ho2
  have HII := Lib.hid hi1
  have HOI := Lib.hid ho1
  have HSO := Lib.hid hso
  have HSI := Lib.hid hsi
  have H54 := Lib.hid b54
  have H92 := Lib.hid b92
  have HIL := Lib.hid hil
  obtain ⟨nk, hnk⟩ : ∃ n, n = key.length := ⟨_, rfl⟩
  obtain ⟨nt, hnt⟩ : ∃ n, n = text.length := ⟨_, rfl⟩
  rw [← hnk] at HP54 HP92 ⊢
  rw [← hnt] at HT htl ⊢
  have HNT := Lib.hid hnt
  clear hk hkl ht b54 b92 ho2 hi2 hin hil ho1 hi1 hso hsi hz32 hs92 hs54 hnk hnt
  go_enter Try.func30, Try.ntmps30
  go_upto_region 2 with (first
    | (have _q := C5; refine list_store_blk rfl 32 _ _ rfl g5 si rfl rfl 32 z32 C5.out HII.out HOI.out ha1 ?_; intro w5b hB hF; have V5 := Lib.hid (Blk.drew hB); have V4 := Lib.hid (Blk.drew ((B5.out).fr1 hF (fun e => by have := (B4.out).lt; have := L5.out; omega))); have UF := Lib.hid (Fr0.drew (Fr0.new F5.out hF (by have := (F4.out).size; have := L5.out; omega))); clear hB hF)
    | (have _q := B4; refine list_alloc_blk rfl 32 rfl z32 HRUN.out ?_; intro g5 w5 hB hF hl5; have C5 := Lib.hid hB; have B5 := Lib.hid ((B4.out).fr0 hF); have F5 := Lib.hid (Fr0.trans F4.out hF); have L5 := Lib.hid hl5; clear hB hF hl5)
    | (refine list_alloc_blk rfl 32 rfl z32 HRUN.out ?_; intro g4 w0 hB hF hl4; have B0 := Lib.hid hB; have F0 := Lib.hid hF; have L4 := Lib.hid hl4; clear hB hF hl4)
    | (go_at_call 46; refine (HP54.out _ F0.out).mono ?_; rintro e w1 ⟨A1, c1, rfl, hS, hf⟩; have S1 := Lib.hid hS; have B1 := Lib.hid ((B0.out).fr0 hf); have F1 := Lib.hid (Fr0.trans F0.out hf); have S1s := Lib.hid hf.size; clear hS hf)
    | (refine list_append_sl (base := w0.heap.size) (d := s54) (e := text) rfl _ _ rfl S1.out rfl S1s.out ((HT.out).fr0 F1.out) rfl (by rw [H54.out, ← HNT.out]; omega) ?_; intro A3 c3 w3 hS hF hK; have S3 := Lib.hid (show SlO w0.heap.size w3 (.slice A3 (64 + nt) c3) (s54 ++ text) from by have h := hS; rw [show (s54 ++ text).length = 64 + nt from by rw [List.length_append, H54.out, HNT.out]] at h; exact h); have B3 := Lib.hid ((B1.out).fr hF (fun hk => (S1.out).ne B1.out (by decide) _ hk rfl)); have F3 := Lib.hid (Fr.then F1.out hF (fun i hi hlt => absurd ((S1.out).lo i hi).1 (by have := (F0.out).size; omega))); rw [show s54.length + text.length = 64 + nt from by rw [H54.out, HNT.out]]; clear hS hF hK)
    | (go_at_call 45; refine (HRI.out _ _ (S3.out).rd).mono ?_; rintro e w4 ⟨rfl, hf⟩; have B4 := Lib.hid ((B3.out).fr0 hf); have F4 := Lib.hid (Fr0.trans F3.out hf); clear hf))
  have hl4 := L4.out
  refine wp_region_held_drew (S := (fun _ => True)) (by kernel_rfl) trivial (fun hHeld => ?_)
  have _hI : True := trivial
  clear _hI
  refine takeH (i := 0) rfl (by kernel_rfl) (by kernel_rfl) (by kernel_rfl) (fun _ _ _ h => h) (yields_move rfl _ rfl) trivial ?_
  try simp only [Act.put, List.setIfInBounds_toArray, List.set_cons_zero, List.set_cons_succ]
  have _hI : True := trivial
  clear _hI
  refine takeH (i := 2) rfl (by kernel_rfl) (by kernel_rfl) (by kernel_rfl) (fun _ _ _ h => h) (v := .slice (some ⟨g5, 0, none⟩) 32 32) (.inl ⟨rfl, fun W _ => (by go_simp; try rfl)⟩) trivial ?_
  try simp only [Act.put, List.setIfInBounds_toArray, List.set_cons_zero, List.set_cons_succ]
  have _hI : True := trivial
  clear _hI
  refine wpAnyH_ready (rs := [1]) (by kernel_rfl) (by simp) (consH rfl rfl (fun K hK => ?_) AllReadyH.nil)
  have _hI : True := trivial
  clear _hI
  go_simp
  refine (HP92.out _ UF.out).mono ?_
  rintro e w6 ⟨A6, c6, rfl, hS, hf⟩
  have S6 := Lib.hid hS
  have U5 := Lib.hid ((V5.out).fr0 hf)
  have U4 := Lib.hid ((V4.out).fr0 hf)
  have F6 := Lib.hid (Fr0.trans UF.out hf)
  have U6 := Lib.hid hf.size
  clear hS hf
  refine hK.out _ _ trivial ?_
  clear hK
  try simp only [Act.put, List.setIfInBounds_toArray, List.set_cons_zero, List.set_cons_succ]
  have _hI : True := trivial
  clear _hI
  refine wpAnyH_ready (rs := [3]) (by kernel_rfl) (by simp) (consH rfl rfl (fun K hK => ?_) AllReadyH.nil)
  have _hI : True := trivial
  clear _hI
  refine wp_append_sl (base := w5b.drew.heap.size) (d := s92) (e := ino) _ _ rfl S6.out rfl U6.out (by have hb := U5.out; rw [HSI.out] at hb; exact rd64 hb HIL.out (by decide)) rfl (by rw [H92.out, HIL.out]; decide) ?_
  intro A7 c7 w7 hS hF hK2
  have S7 := Lib.hid (show SlO w5b.drew.heap.size w7 (.slice A7 96 c7) (s92 ++ ino) from by have h := hS; rw [show (s92 ++ ino).length = 96 from by rw [List.length_append, H92.out, HIL.out]] at h; exact h)
  have W4 := Lib.hid ((U4.out).fr hF (fun hk => (S6.out).ne U4.out (by decide) _ hk rfl))
  have F7 := Lib.hid (Fr.then F6.out hF (fun i hi hlt => absurd ((S6.out).lo i hi).1 (by have := (UF.out).size; omega)))
  rw [show s92.length + ino.length = 96 from by rw [H92.out, HIL.out]]
  clear hS hF hK2
  refine hK.out _ _ trivial ?_
  clear hK
  try simp only [Act.put, List.setIfInBounds_toArray, List.set_cons_zero, List.set_cons_succ]
  have _hI : True := trivial
  clear _hI
  refine wpAnyH_ready (rs := [4]) (by kernel_rfl) (by simp) (consH rfl rfl (fun K hK => ?_) AllReadyH.nil)
  have _hI : True := trivial
  clear _hI
  go_simp
  refine (HRS.out _ _ (S7.out).rd).mono ?_
  rintro e w8 ⟨rfl, hf⟩
  have X4 := Lib.hid ((W4.out).fr0 hf)
  have F8 := Lib.hid (Fr0.trans F7.out hf)
  clear hf
  refine hK.out _ _ trivial ?_
  clear hK
  try simp only [Act.put, List.setIfInBounds_toArray, List.set_cons_zero, List.set_cons_succ]
  have _hI : True := trivial
  clear _hI
  refine wpAnyH_ready (rs := [5]) (by kernel_rfl) (by simp) (consH rfl rfl (fun K hK => ?_) AllReadyH.nil)
  have _hI : True := trivial
  clear _hI
  refine wp_store_blk ?qty1 ?qex1 ?qey1 ?qho1 ?qgg1 ?qcc1 ?qhx1 ?qhy1 ?qtt1 ?qold1 ?qhb1 ?qhi1 ?qhd1 ?qh11 ?qre1
  case qcc1 => exact so
  case qty1 => exact 32
  case qtt1 => exact 32
  case qgg1 => exact g4
  case qold1 => exact z32
  case qex1 => exact (.tmp 4)
  case qey1 => exact (.tmp 15)
  case qho1 => rfl
  case qhb1 => exact X4.out
  case qhi1 => exact HIO.out
  case qhd1 => exact HOO.out
  case qh11 => exact ha2
  case qhx1 => rfl
  case qhy1 => rfl
  intro V hB hf
  have VB := Lib.hid hB
  have VF := Lib.hid (Fr0.new F8.out hf hl4)
  clear hf hB
  refine hK.out _ _ trivial ?_
  clear hK
  try simp only [Act.put, List.setIfInBounds_toArray, List.set_cons_zero, List.set_cons_succ]
  refine wpAnyH_done (by kernel_rfl) ?_ _
  have VBO := VB.out
  go_wp2_with fail
  refine bodyPost_ret (v := .agg so) (results_cell_row rfl _ _ g4 32 so (0, 0) _ rfl VBO Try.underlying32 rfl HIO.out) rfl ⟨by rw [HSO.out], VF.out⟩
end Go.Proofs.Ytpmindbipclphaa
namespace Go.Proofs.Ytpmindbipclphaa
open Go.RowKit

set_option maxHeartbeats 400000 in
theorem refFixed_bad (n : Nat) (size : Int) (hb : size < 1 ∨ 8 < size) (w : World) :
    Calls Try.prog 24 #[.int .u64 (n : Int), .int .i64 size] w fun e w' => e = .returned (.slice none 0 0) ∧ w' = w := by
  by_cases k0 : size < 1
  · have q0 : decide (size < 1) = true := by simpa using k0
    clear k0 hb
    go_enter Try.func24, Try.ntmps24
    go_wp2_with fail
    go_ret
    exact ⟨rfl, rfl⟩
  · have q0 : decide (size < 1) = false := by simpa using k0
    have q1 : decide (8 < size) = true := by simp; omega
    clear k0 hb
    go_enter Try.func24, Try.ntmps24
    go_wp2_with fail
    go_ret
    exact ⟨rfl, rfl⟩

set_option maxHeartbeats 400000 in
set_option maxRecDepth 100000 in
theorem refFixed_good (n : Nat) (size : Nat) (hn : n < 18446744073709551616) (h1 : 1 ≤ size) (h8 : size ≤ 8) (w : World) :
    Calls Try.prog 24 #[.int .u64 (n : Int), .int .i64 (size : Int)] w fun e w' => ∃ v, e = .returned v ∧ w'.ownsRow w.heap.size 5 1 v size (byts (fixForm n size)) ∧ Fr0 w w' := by
  obtain ⟨i0, hiW, hz0, hz1, hz2⟩ := info_parts infoU8
  have Hi := Lib.hid hiW
  have q0 : decide ((size : Int) < 1) = false := by simp; omega
  have q1 : decide (8 < (size : Int)) = false := by simp; omega
  have e2 : IntKind.i64.wrap ((size : Int) - 1) = (size : Int) - 1 := IntWalk.i64_in _ (by omega)
  clear hiW
  go_enter Try.func24, Try.ntmps24
  go_wp2_with fail
  clear q0 q1 e2
  go_loopw [5, 6] (fun v5 v6 wr => ∃ (k : Nat) (A : Option Addr) (c : Nat) (o : List UInt8), v6 = .int .i64 ((k : Int) - 1) ∧ k ≤ size ∧ v5 = .slice A o.length c ∧ Fr0 w wr ∧ wr.ownsRow w.heap.size 5 1 (.slice A o.length c) o.length (byts o) ∧ o ++ fixForm n k = fixForm n size ∧ o.length + k = size) (fun _ v6 _ => (intOf v6 + 1).toNat)
  case atStart => exact ⟨size, none, 0, [], rfl, by omega, rfl, Fr0.refl w, World.ownsRow_nil _ _ _ _, rfl, by simp⟩
  case round =>
    obtain ⟨k, A, c, o, rfl, hk, rfl, hf, hown, hform, hlen⟩ := hrel
    rcases Nat.eq_zero_or_pos k with hk0 | hk0
    · subst hk0
      have q0 : decide ((0 : Int) ≤ ((0 : Nat) : Int) - 1) = false := by decide
      have HF := Lib.hid hform
      have HL := Lib.hid hlen
      clear hform hlen
      go_wp2_with fail
      go_ret
      have e1 := HF.out
      have e2 := HL.out
      rw [fixForm, List.append_nil] at e1
      subst e1
      rw [fixForm_len] at hown
      rw [fixForm_len]
      exact ⟨_, rfl, hown, hf⟩
    · obtain ⟨i, rfl⟩ : ∃ i, k = i + 1 := ⟨k - 1, by omega⟩
      have e0 : (((i + 1 : Nat) : Int) - 1) = (i : Int) := by omega
      rw [e0]
      have q0 : decide ((0 : Int) ≤ (i : Int)) = true := by simp
      have e4 : IntKind.i64.wrap (8 * (i : Int)) = 8 * (i : Int) := IntWalk.i64_in _ (by omega)
      have e5 : IntKind.u64.wrap (8 * (i : Int)) = 8 * (i : Int) := by show (8 * (i : Int)) % 18446744073709551616 = _; omega
      have es := shr8 n i (by omega)
      obtain ⟨q, hq⟩ : ∃ q, q = n / 256 ^ i := ⟨_, rfl⟩
      rw [← hq] at es
      have eo : (q : Int) % 256 = ((UInt8.ofNat (n / 256 ^ i % 256)).toNat : Int) := by rw [u8_of _ (by omega), ← hq]; omega
      have HO := Lib.hid hown
      have EO := Lib.hid eo
      have HQ := Lib.hid hq
      have HF := Lib.hid hform
      have HL := Lib.hid hlen
      have hl7 : o.length ≤ 7 := by omega
      have hf' := Lib.hid hf
      clear hown eo hq hform hlen e0 hf
      go_wp2_with (at_builtin; refine wpList_append_rd _ rfl _ _ 35 rfl w.heap.size 5 i0 (.int .u8 0) 1 1 Try.underlying35 Hi.out hz0 hz1 hz2 rfl (by decide) _ _ _ rfl ((HO.out).alloc _) _ 1 _ rfl (rd_oneW _ _) (one_cell _) (by unfold maxLen; omega) (by omega) ((hf'.out).alloc _).size ?_; intro v' w2 hown' hgrow; obtain ⟨A', c', rfl, -, -, -⟩ := own_form hown')
      clear q0 e4 e5 es
      go_roundw
      case measure => simp [intOf]
      refine ⟨i, A', c', o ++ [UInt8.ofNat (n / 256 ^ i % 256)], rfl, by omega, by simp, Fr.grown ((hf'.out).alloc _) hgrow (fun k hk => .inr (own_lt' (HO.out) k hk).1), ?_, ?_, ?_⟩
      · have e : byts (o ++ [UInt8.ofNat (n / 256 ^ i % 256)]) = byts o ++ [.int .u8 ((q : Int) % 256)] := by rw [EO.out]; simp [byts]
        rw [e, List.length_append]
        exact hown'
      · rw [← HF.out, fixForm]; simp
      · have := HL.out; simp; omega

theorem refFixed_any (n : Nat) (size : Int) (hn : n < 18446744073709551616) (w : World) :
    Calls Try.prog 24 #[.int .u64 (n : Int), .int .i64 size] w fun e w' => ∃ v, e = .returned v ∧ w'.ownsRow w.heap.size 5 1 v (fixed n size).length (byts (fixed n size)) ∧ Fr0 w w' := by
  by_cases hb : size < 1 ∨ 8 < size
  · refine (refFixed_bad n size hb w).mono ?_
    rintro e w' ⟨rfl, rfl⟩
    rw [show fixed n size = [] from if_pos hb]
    exact ⟨_, rfl, World.ownsRow_nil _ _ _ _, Fr0.refl _⟩
  · obtain ⟨k, rfl⟩ : ∃ k : Nat, size = k := ⟨size.toNat, by omega⟩
    rw [show fixed n (k : Int) = fixForm n k from by unfold fixed; rw [if_neg hb]; rfl, fixForm_len]
    exact refFixed_good n k hn (by omega) (by omega) w

end Go.Proofs.Ytpmindbipclphaa
set_option linter.unusedSimpArgs false
set_option linter.unusedVariables false
namespace Go.Proofs.Ytpmindbipclphaa
open Go.RowKit

set_option maxHeartbeats 4000000 in
set_option maxRecDepth 10000 in
theorem rtag_any {code mark b : List UInt8} {v : Value} {w : World} (hc : code.length = 16) (hm : mark.length = 32) (hb : RdB w v b) (hl : b.length ≤ 800000) :
    Calls Try.prog 17 #[.agg (byts (code ++ mark)).toArray, v] w fun e w' => ∃ A c, e = .returned (.slice A 16 c) ∧ SlO w.heap.size w' (.slice A 16 c) (tagL mark b) ∧ Fr0 w w' := by
  obtain ⟨Ab, cb, rfl, -, -, -⟩ := hb.form
  have HMO := Lib.hid (fun W g (hk : Blk W g (byts (code ++ mark)).toArray 34) (hf : Fr0 w W) => rof_any (kv := .slice (some ⟨g, 16, none⟩) 32 32) (key_mark hc hm hk) (show mark.length ≤ 900000 by omega) (hb.fr0 hf) hl)
  have HRUN := Lib.hid (fun W => z32_run W)
  have HIM := Lib.hid (dig_info (macN_len mark b))
  have HZM := Lib.hid (z32_size (macN_len mark b))
  have ham := byts_all (macN mark b)
  have HM16 := Lib.hid (fun W g (h : Blk W g (byts (macN mark b)).toArray 32) => show RdB W (.slice (some ⟨g, 0, none⟩) 16 32) (tagL mark b) from mac16 (macN_len mark b) h)
  have HLM := Lib.hid (tagL_len mark b)
  have K0 := Lib.hid (Blk.new w (byts (code ++ mark)).toArray 34)
  have F0 := Lib.hid ((Fr0.refl w).alloc (.cells (byts (code ++ mark)).toArray 34))
  obtain ⟨nb, hnb⟩ : ∃ f, f = b.length := ⟨_, rfl⟩
  rw [← hnb] at HMO ⊢
  obtain ⟨MT, hMT⟩ : ∃ f, f = tagL mark b := ⟨_, rfl⟩
  rw [← hMT] at HM16 HLM ⊢
  obtain ⟨mc, hmc⟩ : ∃ t, t = (byts (macN mark b)).toArray := ⟨_, rfl⟩
  rw [← hmc] at HMO HM16 HIM HZM ham
  obtain ⟨ck, hck⟩ : ∃ t, t = (byts (code ++ mark)).toArray := ⟨_, rfl⟩
  rw [← hck] at HMO K0 F0 ⊢
  obtain ⟨z, hz⟩ : ∃ z, z = z32A := ⟨_, rfl⟩
  rw [← hz] at HRUN HZM
  clear hc hm hb hl hnb hMT hmc hck hz
  go_enter Try.func17, Try.ntmps17
  go_wp2_with (first
    | (have _q := S5; at_builtin; refine list_append_sl (base := w.heap.size) (d := []) (e := MT) rfl _ _ rfl (SlO.new0 (F5.out).size) rfl (by have := (F5.out).size; rw [World.size_alloc]; omega) ((HM16.out _ _ S5.out).fr0 ((Fr0.refl _).alloc _)) rfl (by rw [HLM.out]; simp) ?_; intro A8 c8 w8 hS hF hK; have S8 := Lib.hid (show SlO w.heap.size w8 (.slice A8 16 c8) MT from by have h := hS; rw [List.nil_append, HLM.out] at h; exact h); have F8 := Lib.hid ((SlO.new0 (F5.out).size).thenFr ((F5.out).alloc _) hF); rw [show ([] : List UInt8).length + MT.length = 16 from by rw [HLM.out]; rfl]; clear hS hF hK)
    | (have _q := X4; refine list_store_blk rfl 32 _ _ rfl g5 mc rfl rfl 32 z X4.out HIM.out HZM.out ham ?_; intro w5 hB hF; have S5 := Lib.hid hB; have F5 := Lib.hid (Fr0.new F4.out hF (Nat.le_trans (F3.out).size L4.out)); clear hB hF)
    | (have _q := F3; refine list_alloc_blk rfl 32 rfl z HRUN.out ?_; intro g5 w4 hB hF hl; have X4 := Lib.hid hB; have F4 := Lib.hid (Fr0.trans F3.out hF); have L4 := Lib.hid hl; clear hB hF hl)
    | (go_at_call 30; refine (HMO.out _ _ K0.out F0.out).mono ?_; rintro e w3 ⟨rfl, hf⟩; have F3 := Lib.hid (Fr0.trans F0.out hf); clear hf))
  go_ret
  exact ⟨_, _, rfl, S8.out, F8.out⟩
set_option maxHeartbeats 4000000 in
set_option maxRecDepth 10000 in
theorem rseal_good {code mark text : List UInt8} {dn : Bool} {n : Nat} {tv : Value} {w : World} (hc : code.length = 16) (hm : mark.length = 32) (hn : n < 9223372036854775808) (ht : RdB w tv text) (hl : text.length ≤ 1200) :
    Calls Try.prog 15 #[.agg (byts (code ++ mark)).toArray, nonceV dn n, tv] w fun e w' => ∃ v, e = .returned (.tuple #[v, .int .i64 0]) ∧ w'.ownsRow w.heap.size 5 1 v (packL code mark (wordL dn n) text).length (byts (packL code mark (wordL dn n) text)) ∧ Fr0 w w' := by
  obtain ⟨At, ct, rfl, -, -, -⟩ := ht.form
  have hwd := word_lt dn hn
  have HWD := Lib.hid (fun W => show Calls Try.prog 10 #[nonceV dn n] W (fun e w' => e = .returned (.tuple #[.int .u64 (wordL dn n : Int), .int .i64 0]) ∧ Fr0 W w') by
    have h := nrword_any (dn := dn) (n := n) (w := W) (by omega)
    rw [if_neg (by omega), if_neg (by omega)] at h
    exact h)
  obtain ⟨wd, hwd2⟩ : ∃ d, d = wordL dn n := ⟨_, rfl⟩
  rw [← hwd2] at HWD hwd ⊢
  have HFX := Lib.hid (fun W => show Calls Try.prog 24 #[.int .u64 (wd : Int), .int .i64 8] W (fun e w' => ∃ v, e = .returned v ∧ w'.ownsRow W.heap.size 5 1 v 8 (byts (fixForm wd 8)) ∧ Fr0 W w') by
    have h := refFixed_any wd 8 hwd W
    rw [show fixed wd 8 = fixForm wd 8 from rfl, fixForm_len] at h
    exact h)
  have HTN := Lib.hid (fun W (hf : Fr0 w W) => show Calls Try.prog 25 #[.agg (byts code).toArray, .int .u64 (wd : Int), .int .i64 0, .slice At text.length ct] W (fun e w' => ∃ A c, e = .returned (.slice A text.length c) ∧ SlO W.heap.size w' (.slice A text.length c) (tnL code wd text) ∧ Fr0 W w') from rturn5_any hc hwd (ht.fr0 hf) (by omega))
  have HPK := Lib.hid (show packL code mark wd text = (fixForm wd 8 ++ tnL code wd text) ++ tagL mark (fixForm wd 8 ++ tnL code wd text) from rfl)
  have HPL := Lib.hid (show (packL code mark wd text).length = 8 + text.length + 16 by rw [packL_len]; omega)
  have HLT := Lib.hid (tnL_len code wd text)
  have HLF := Lib.hid (fixForm_len wd 8)
  have HT9 := Lib.hid (show text.length ≤ 100000 by omega)
  have HL := Lib.hid hl
  have HPI := Lib.hid (show (Try.prog.info? 31).map (·.size) = some (byts (((code ++ mark).drop 0).take 16)).length by rw [byts_len, List.drop_zero, List.length_take, List.length_append, hc, hm]; kernel_rfl)
  have HCD := Lib.hid (show ((code ++ mark).drop 0).take 16 = code by rw [List.drop_zero, ← hc, List.take_left])
  have HCK := Lib.hid (show (Try.prog.info? 34).map (·.size) = some (byts (code ++ mark)).toArray.size by rw [byts_size, List.length_append, hc, hm]; kernel_rfl)
  have HTG := Lib.hid (fun W v h (hr : RdB W v h) (h2 : h.length ≤ 800000) => rtag_any (code := code) (mark := mark) hc hm hr h2)
  have hcodeq := HCD.out
  have K0 := Lib.hid ((Blk.new w (byts (code ++ mark)).toArray 34).alloc (.cells #[.bool dn, .int .u64 (n : Int)] 24))
  have N1 := Blk.new (w.alloc (.cells (byts (code ++ mark)).toArray 34)) #[.bool dn, .int .u64 (n : Int)] 24
  have F0 := Lib.hid (((Fr0.refl w).alloc (.cells (byts (code ++ mark)).toArray 34)).alloc (.cells #[.bool dn, .int .u64 (n : Int)] 24))
  rw [World.size_alloc] at N1
  have N0 := Lib.hid N1
  obtain ⟨FX, hFX⟩ : ∃ f, f = fixForm wd 8 := ⟨_, rfl⟩
  rw [← hFX] at HFX HPK HLF
  obtain ⟨TX, hTX⟩ : ∃ f, f = tnL code wd text := ⟨_, rfl⟩
  rw [← hTX] at HTN HPK HLT
  obtain ⟨PK, hPK⟩ : ∃ f, f = packL code mark wd text := ⟨_, rfl⟩
  rw [← hPK] at HPK HPL ⊢
  obtain ⟨nt, hnt⟩ : ∃ f, f = text.length := ⟨_, rfl⟩
  rw [← hnt] at HTN HPL HLT HT9 HL ⊢
  obtain ⟨gk, hgk⟩ : ∃ f, f = w.heap.size := ⟨_, rfl⟩
  rw [← hgk] at K0 N0
  have HGK := Lib.hid hgk
  have t1 : decide ((1200 : Int) < (nt : Int)) = false := decide_eq_false (by omega)
  unfold nonceV at HWD ⊢
  clear hcodeq N1 hFX hTX hPK hnt hwd2 ht hl hc hm hn hwd
  clear hgk
  go_enter Try.func15, Try.ntmps15
  go_upto_region 6 with (first
    | (go_at_call 10; refine (HWD.out _).mono ?_; rintro e w3 ⟨rfl, hf⟩; have F3 := Lib.hid (Fr0.trans F0.out hf); have K3 := Lib.hid ((K0.out).fr0 hf); clear hf)
    | (refine list_load_blk rfl 24 _ rfl (gk + 1) rfl 24 #[.bool dn, .int .u64 (n : Int)] N0.out _ Try.underlying24 rfl (by kernel_rfl) ?_))
  rw [← HGK.out]
  go_cut [10] (fun s10 wx => ∃ (A : Option Addr) (c : Nat), s10 = .slice A (8 + nt) c ∧ wx.ownsRow gk 5 1 (.slice A (8 + nt) c) (8 + nt) (byts (FX ++ TX)) ∧ Blk wx gk (byts (code ++ mark)).toArray 34 ∧ Fr0 w wx)
  case first =>
    have FA := Lib.hid ((F3.out).drew)
    have KA := Lib.hid ((K3.out).drew)
    have UF := Lib.hid (Fr0.refl w3.drew)
    clear F3 K3
    rw [← HCD.out] at HTN
    refine wp_region_held_drew (S := (fun W => Fr0 w3.drew W)) (by kernel_rfl) UF.out (fun hHeld => ?_)
    generalize w3.drew = wa at *
    have _hI : True := trivial
    clear _hI
    refine takeH (i := 0) rfl (by kernel_rfl) (by kernel_rfl) (by kernel_rfl) (fun _ _ _ h => h) (v := .int .u64 (wd : Int)) (.inl ⟨rfl, fun W hW => (by go_simp; try rfl)⟩) UF.out ?_
    try simp only [Act.put, List.setIfInBounds_toArray, List.set_cons_zero, List.set_cons_succ]
    have _hI : True := trivial
    clear _hI
    refine takeH (i := 2) rfl (by kernel_rfl) (by kernel_rfl) (by kernel_rfl) (fun _ _ _ h => h) (v := .pointer (some ⟨gk, 0, none⟩)) (.inl ⟨rfl, fun W hW => (by go_simp; try rfl)⟩) UF.out ?_
    try simp only [Act.put, List.setIfInBounds_toArray, List.set_cons_zero, List.set_cons_succ]
    have _hI : True := trivial
    clear _hI
    refine takeH (i := 3) rfl (by kernel_rfl) (by kernel_rfl) (by kernel_rfl) (fun _ _ _ h => h) (yields_load_part rfl 31 _ rfl gk 0 rfl 34 (code ++ mark) 16 (fun W hW => (KA.out).fr0 hW) _ Try.underlying31 rfl HPI.out) UF.out ?_
    try simp only [Act.put, List.setIfInBounds_toArray, List.set_cons_zero, List.set_cons_succ]
    have _hI : True := trivial
    clear _hI
    refine takeH (i := 4) rfl (by kernel_rfl) (by kernel_rfl) (by kernel_rfl) (fun _ _ _ h => h) (v := .int .u64 (wd : Int)) (.inl ⟨rfl, fun W hW => (by go_simp; try rfl)⟩) UF.out ?_
    try simp only [Act.put, List.setIfInBounds_toArray, List.set_cons_zero, List.set_cons_succ]
    have _hI : True := trivial
    clear _hI
    refine takeH (i := 5) rfl (by kernel_rfl) (by kernel_rfl) (by kernel_rfl) (fun _ _ _ h => h) (v := .slice At nt ct) (.inl ⟨rfl, fun W hW => (by go_simp; try rfl)⟩) UF.out ?_
    try simp only [Act.put, List.setIfInBounds_toArray, List.set_cons_zero, List.set_cons_succ]
    have _hI : True := trivial
    clear _hI
    refine wpAnyH_ready (rs := [1]) (by kernel_rfl) (by simp) (consG rfl rfl (fun K hK => ?_) AllReadyH.nil)
    have _hI : True := trivial
    clear _hI
    go_simp
    refine (HFX.out _).mono ?_
    rintro e Wn ⟨v, rfl, ho, hf⟩
    replace UF2 := Lib.hid (Fr0.trans UF.out hf)
    have VO := Lib.hid (own_baseW ho (UF.out).size)
    replace UF := UF2
    clear UF2 ho hf
    refine hK.out _ _ UF.out ?_
    clear hK
    try simp only [Act.put, List.setIfInBounds_toArray, List.set_cons_zero, List.set_cons_succ]
    have _hI : True := trivial
    clear _hI
    refine wpAnyH_ready (rs := [6]) (by kernel_rfl) (by simp) (consG rfl rfl (fun K hK => ?_) AllReadyH.nil)
    have _hI : True := trivial
    clear _hI
    go_simp
    refine (HTN.out _ (Fr0.trans FA.out UF.out)).mono ?_
    rintro e Wn ⟨At2, ct2, rfl, hb, hf⟩
    replace UF2 := Lib.hid (Fr0.trans UF.out hf)
    have TB := Lib.hid hb
    replace VO := Lib.hid (own_fr VO.out hf (fun _ _ h => h))
    replace UF := UF2
    clear UF2 hb hf
    refine hK.out _ _ UF.out ?_
    clear hK
    try simp only [Act.put, List.setIfInBounds_toArray, List.set_cons_zero, List.set_cons_succ]
    have _hI : True := trivial
    clear _hI
    refine wpAnyH_ready (rs := [7]) (by kernel_rfl) (by simp) (consG rfl rfl (fun K hK => ?_) AllReadyH.nil)
    have _hI : True := trivial
    clear _hI
    refine wp_append_own (base := wa.heap.size) (n := 8) (d := FX) (e := TX) _ _ rfl (UF.out).size VO.out rfl (TB.out).rd rfl (by rw [HLT.out]; have := HT9.out; omega) ?_
    intro A7 c7 w7 hO hF
    replace UF := Lib.hid (Fr.then UF.out hF (fun i hi hl => by have := (own_lt' VO.out i hi).1; omega))
    rw [HLT.out] at hO ⊢
    have AO := Lib.hid hO
    clear hO hF
    refine hK.out _ _ UF.out ?_
    clear hK
    try simp only [Act.put, List.setIfInBounds_toArray, List.set_cons_zero, List.set_cons_succ]
    have _hI : True := trivial
    clear _hI
    refine takeH (i := 8) rfl (by kernel_rfl) (by kernel_rfl) (by kernel_rfl) (fun _ _ _ h => h) (v := .slice A7 (8 + nt) c7) (.inl ⟨rfl, fun W hW => (by go_simp; try rfl)⟩) UF.out ?_
    try simp only [Act.put, List.setIfInBounds_toArray, List.set_cons_zero, List.set_cons_succ]
    refine wpAnyH_done (by kernel_rfl) ?_ _
    go_wp2_with fail
    go_meet
    exact ⟨A7, c7, rfl, own_baseW AO.out (by rw [HGK.out]; exact (FA.out).size), (KA.out).fr0 UF.out, Fr0.trans FA.out UF.out⟩
  case rest =>
    obtain ⟨A, c, rfl, hO, hK, hF⟩ := hcut
    have O := Lib.hid hO
    have K := Lib.hid hK
    have F := Lib.hid hF
    clear hO hK hF F3 K3
    have HLH := Lib.hid (show (FX ++ TX).length = 8 + nt by rw [List.length_append, HLF.out, HLT.out])
    obtain ⟨HD, hHD⟩ : ∃ h, h = FX ++ TX := ⟨_, rfl⟩
    rw [← hHD] at HPK HLH O
    have HMO := Lib.hid (fun W (ho : W.ownsRow gk 5 1 (.slice A (8 + nt) c) (8 + nt) (byts HD)) => HTG.out W (.slice A (8 + nt) c) HD (by have h := Rd.of_own ho; unfold RdB; rw [HLH.out]; exact h) (by rw [HLH.out]; have := HT9.out; omega))
    have HLM := Lib.hid (tagL_len mark HD)
    obtain ⟨MT, hMT⟩ : ∃ h, h = tagL mark HD := ⟨_, rfl⟩
    rw [← hMT] at HPK HLM HMO
    obtain ⟨ckm, hckm⟩ : ∃ c, c = (byts (code ++ mark)).toArray := ⟨_, rfl⟩
    rw [← hckm] at K HCK HMO
    have HM9 := Lib.hid (show nt ≤ 100000 from HT9.out)
    have GKW := Lib.hid (show gk ≤ wc.heap.size by rw [HGK.out]; exact (F.out).size)
    clear hHD hMT HTG HFX HTN HWD K0 N0 F0 HCD HPI hckm
    go_wp2_with (first
      | (have _q := S3; at_builtin; refine wpList_plain rfl fun KK hKK => ?_; refine wp_append_own (base := gk) (n := 8 + nt) (d := HD) (e := MT) _ _ rfl G3.out O3.out rfl (by have h := (S3.out).rd; exact h) rfl (by rw [HLM.out]; have := HM9.out; omega) ?_; intro A8 c8 w8 hO hF; refine hKK _ _ ?_; have O8 := Lib.hid hO; have F8 := Lib.hid (Fr.then F3.out hF (fun i hi hl => by have := (own_lt' O3.out i hi).1; have := HGK.out; omega)); clear hO hF)
      | (go_at_call 17; refine (HMO.out _ O.out).mono ?_; rintro e w3' ⟨A3, c3, rfl, hS, hf⟩; have S3 := Lib.hid hS; have F3 := Lib.hid (Fr0.trans F.out hf); have O3 := Lib.hid (own_fr O.out hf (fun _ _ h => h)); have G3 := Lib.hid (Nat.le_trans GKW.out hf.size); clear hS hf)
      | (refine list_load_blk rfl 34 _ rfl gk rfl 34 ckm K.out _ Try.underlying34 rfl HCK.out ?_))
    go_ret2
    refine ⟨_, rfl, ?_, F8.out⟩
    rw [HPK.out, ← HGK.out, List.length_append, HLH.out]
    exact O8.out
set_option maxHeartbeats 4000000 in
set_option maxRecDepth 10000 in
theorem rseal_far {code mark : List UInt8} {dn : Bool} {n : Nat} {tv : Value} {w : World} (hn : n < 18446744073709551616) (h2 : 9223372036854775808 ≤ n) :
    Calls Try.prog 15 #[.agg (byts (code ++ mark)).toArray, nonceV dn n, tv] w fun e w' => e = .returned (.tuple #[.slice none 0 0, .int .i64 2]) ∧ Fr0 w w' := by
  have HWD := Lib.hid (fun W => show Calls Try.prog 10 #[nonceV dn n] W (fun e w' => e = .returned (.tuple #[.int .u64 0, .int .i64 2]) ∧ Fr0 W w') by
    have h := nrword_any (dn := dn) (n := n) (w := W) hn
    rw [if_pos h2, if_pos h2] at h
    exact h)
  obtain ⟨ck, hck⟩ : ∃ c, c = (byts (code ++ mark)).toArray := ⟨_, rfl⟩
  rw [← hck]
  have F0 := Lib.hid (((Fr0.refl w).alloc (.cells ck 34)).alloc (.cells #[.bool dn, .int .u64 (n : Int)] 24))
  have N0 := Blk.new (w.alloc (.cells ck 34)) #[.bool dn, .int .u64 (n : Int)] 24
  rw [World.size_alloc] at N0
  have c0 := N0.cell 0 rfl
  have c1 := N0.cell 1 rfl
  unfold nonceV at HWD ⊢
  clear hck h2 hn N0
  go_enter Try.func15, Try.ntmps15
  go_wp2_with (go_at_call 10; refine (HWD.out _).mono ?_; rintro e w3 ⟨rfl, hf⟩; have F3 := Lib.hid (Fr0.trans F0.out hf); clear hf)
  go_ret2
  exact ⟨rfl, F3.out⟩
set_option maxHeartbeats 4000000 in
set_option maxRecDepth 10000 in
theorem rseal_long {code mark text : List UInt8} {dn : Bool} {n : Nat} {tv : Value} {w : World} (hn : n < 9223372036854775808) (ht : RdB w tv text) (hl : 1200 < text.length) :
    Calls Try.prog 15 #[.agg (byts (code ++ mark)).toArray, nonceV dn n, tv] w fun e w' => e = .returned (.tuple #[.slice none 0 0, .int .i64 3]) ∧ Fr0 w w' := by
  obtain ⟨At, ct, rfl, -, -, -⟩ := ht.form
  have HWD := Lib.hid (fun W => show Calls Try.prog 10 #[nonceV dn n] W (fun e w' => e = .returned (.tuple #[.int .u64 (wordL dn n : Int), .int .i64 0]) ∧ Fr0 W w') by
    have h := nrword_any (dn := dn) (n := n) (w := W) (by omega)
    rw [if_neg (by omega), if_neg (by omega)] at h
    exact h)
  obtain ⟨wd, hwd2⟩ : ∃ d, d = wordL dn n := ⟨_, rfl⟩
  rw [← hwd2] at HWD
  obtain ⟨nt, hnt⟩ : ∃ f, f = text.length := ⟨_, rfl⟩
  rw [← hnt] at hl ⊢
  have t1 : decide ((1200 : Int) < (nt : Int)) = true := decide_eq_true (by omega)
  obtain ⟨ck, hck⟩ : ∃ c, c = (byts (code ++ mark)).toArray := ⟨_, rfl⟩
  rw [← hck]
  have F0 := Lib.hid (((Fr0.refl w).alloc (.cells ck 34)).alloc (.cells #[.bool dn, .int .u64 (n : Int)] 24))
  have N0 := Blk.new (w.alloc (.cells ck 34)) #[.bool dn, .int .u64 (n : Int)] 24
  rw [World.size_alloc] at N0
  have c0 := N0.cell 0 rfl
  have c1 := N0.cell 1 rfl
  unfold nonceV at HWD ⊢
  clear hck hn hnt hl ht hwd2 N0
  go_enter Try.func15, Try.ntmps15
  go_wp2_with (go_at_call 10; refine (HWD.out _).mono ?_; rintro e w3 ⟨rfl, hf⟩; have F3 := Lib.hid (Fr0.trans F0.out hf); clear hf)
  go_ret2
  exact ⟨rfl, F3.out⟩
theorem rseal_any {code mark text : List UInt8} {dn : Bool} {n : Nat} {tv : Value} {w : World} (hc : code.length = 16) (hm : mark.length = 32) (hn : n < 18446744073709551616) (ht : RdB w tv text) :
    Calls Try.prog 15 #[.agg (byts (code ++ mark)).toArray, nonceV dn n, tv] w fun e w' => ∃ v, e = .returned (.tuple #[v, .int .i64 (sealP code mark dn n text).2]) ∧ w'.ownsRow w.heap.size 5 1 v (sealP code mark dn n text).1.length (byts (sealP code mark dn n text).1) ∧ Fr0 w w' := by
  by_cases h2 : 9223372036854775808 ≤ n
  · rw [show sealP code mark dn n text = ([], 2) from if_pos h2]
    refine (rseal_far hn h2).mono ?_
    rintro e w' ⟨rfl, hf⟩
    exact ⟨_, rfl, World.ownsRow_nil _ _ _ _, hf⟩
  by_cases h3 : 1200 < text.length
  · rw [show sealP code mark dn n text = ([], 3) by unfold sealP; rw [if_neg h2, if_pos h3]]
    refine (rseal_long (by omega) ht h3).mono ?_
    rintro e w' ⟨rfl, hf⟩
    exact ⟨_, rfl, World.ownsRow_nil _ _ _ _, hf⟩
  rw [show sealP code mark dn n text = (packL code mark (wordL dn n) text, 0) by unfold sealP; rw [if_neg h2, if_neg h3]]
  exact rseal_good hc hm (by omega) ht (by omega)
end Go.Proofs.Ytpmindbipclphaa
namespace Go.Proofs.Ytpmindbipclphaa

theorem fixVal_formS (n : Nat) : ∀ (k a : Nat), (fixForm n k).foldl (fun n x => n * 256 + x.toNat) a = a * 256 ^ k + n % 256 ^ k
  | 0, a => by simp [fixForm, Nat.mod_one]
  | k + 1, a => by
    rw [fixForm, List.foldl_cons, fixVal_formS n k, u8_of _ (Nat.mod_lt _ (by decide)), Nat.mod_pow_succ, Nat.pow_succ, Nat.add_mul, Nat.mul_assoc, Nat.mul_comm 256 (256 ^ k), Nat.mul_comm (n / 256 ^ k % 256)]
    omega
theorem rFixed_formS (n k : Nat) (h1 : 1 ≤ k) (h8 : k ≤ 8) (r : List UInt8) : rFixed (fixForm n k ++ r) 0 (k : Int) = (n % 256 ^ k, r, 0) := by
  have hs : fStep (fixForm n k ++ r) (k : Int) = (k, 0) := by
    unfold fStep
    rw [if_neg]
    · simp
    · rw [List.length_append, fixForm_len]; omega
  unfold rFixed
  rw [if_neg (by simp), hs, if_neg (by simp), List.take_left' (fixForm_len n k), List.drop_left' (fixForm_len n k)]
  have := fixVal_formS n k 0
  rw [Nat.zero_mul, Nat.zero_add] at this
  rw [fixVal, this]
theorem wdL_head (code : List UInt8) {wd : Nat} (h : wd < 18446744073709551616) (text : List UInt8) : wdL (headL code wd text) = wd := by
  unfold wdL headL
  have h2 := rFixed_formS wd 8 (by decide) (by decide) (tnL code wd text)
  rw [show (8 : Int) = ((8 : Nat) : Int) from rfl, h2]
  exact Nat.mod_eq_of_lt h
theorem pack_take (code mark : List UInt8) (wd : Nat) (text : List UInt8) : (packL code mark wd text).take ((packL code mark wd text).length - 16) = headL code wd text := by
  rw [packL_len, show text.length + 24 - 16 = (headL code wd text).length by rw [headL_len]; omega]
  unfold packL
  rw [List.take_left]
theorem pack_drop (code mark : List UInt8) (wd : Nat) (text : List UInt8) : (packL code mark wd text).drop ((packL code mark wd text).length - 16) = tagL mark (headL code wd text) := by
  rw [packL_len, show text.length + 24 - 16 = (headL code wd text).length by rw [headL_len]; omega]
  unfold packL
  rw [List.drop_left]
theorem openP_pack (code mark : List UInt8) {dn : Bool} {n : Nat} {text : List UInt8} (hn : n < 9223372036854775808) (hl : text.length ≤ 1200) :
    openP code mark (packL code mark (wordL dn n) text) = ((dn, n), text, 0) := by
  have hw := word_lt dn hn
  unfold openP
  rw [if_neg (by rw [packL_len]; omega), pack_take, pack_drop, if_pos rfl, wdL_head code hw, ofD_word dn hn, ofN_word dn hn]
  rw [show (headL code (wordL dn n) text).drop 8 = tnL code (wordL dn n) text by unfold headL; rw [List.drop_left' (fixForm_len _ 8)], tnL_tnL]
theorem sealP_good (code mark : List UInt8) {dn : Bool} {n : Nat} {text : List UInt8} (hn : n < 9223372036854775808) (hl : text.length ≤ 1200) : sealP code mark dn n text = (packL code mark (wordL dn n) text, 0) := by
  unfold sealP; rw [if_neg (by omega), if_neg (by omega)]
end Go.Proofs.Ytpmindbipclphaa
set_option linter.unusedSimpArgs false
set_option linter.unusedVariables false
namespace Go.Proofs.Ytpmindbipclphaa
open Go.RowKit

def kCode : List UInt8 := 1 :: List.replicate 15 0
def kMark : List UInt8 := 2 :: List.replicate 31 0
def kKey : Array Value := (byts (kCode ++ kMark)).toArray
def k16 : Array Value := (byts kCode).toArray
def k32 : Array Value := (byts kMark).toArray
def kABC : List UInt8 := [97, 98, 99]
def z48A : Array Value := (byts (List.replicate 48 0)).toArray
theorem z48_run (W : World) : (Instr.alloc 34 true (.tuple #[])).run Try.prog W = .ok (.pointer (some ⟨W.heap.size, 0, none⟩)) (W.alloc (.cells z48A 34)) := by kernel_rfl
theorem kseal_any {W : World} {tv : Value} (h : RdB W tv kABC) : Calls Try.prog 14 #[.agg kKey, .agg #[.bool true, .int .u64 5], tv] W fun e w' => ∃ A c, e = .returned (.tuple #[.slice A 27 c, .int .i64 0]) ∧ RdB w' (.slice A 27 c) (packL kCode kMark (wordL true 5) kABC) ∧ Fr0 W w' := by
  refine (seal_any (code := kCode) (mark := kMark) (dn := true) (n := 5) rfl rfl (by decide) h).mono ?_
  rintro e w' ⟨v, rfl, ho, hf⟩
  rw [sealP_good kCode kMark (by decide) (by decide)] at ho ⊢
  have r := RdB.of_own ho
  obtain ⟨A, c, rfl, -, -, -⟩ := r.form
  rw [packL_len] at r ⊢
  exact ⟨A, c, rfl, r, hf⟩
theorem kopen_any {W : World} {v : Value} (h : RdB W v (packL kCode kMark (wordL true 5) kABC)) : Calls Try.prog 16 #[.agg kKey, v] W fun e w' => ∃ A c, e = .returned (.tuple #[.agg #[.bool true, .int .u64 5], .slice A 3 c, .int .i64 0]) ∧ RdB w' (.slice A 3 c) kABC ∧ Fr0 W w' := by
  refine (open_good (code := kCode) (mark := kMark) rfl rfl h (by rw [packL_len]; decide) (by rw [packL_len]; decide)).mono ?_
  rintro e w' ⟨v, rfl, hr0, hf⟩
  have hr := hr0.rd
  rw [openP_pack kCode kMark (dn := true) (n := 5) (by decide) (by decide)] at hr ⊢
  obtain ⟨A, c, rfl, -, -, -⟩ := hr.form
  exact ⟨A, c, rfl, hr, hf⟩
theorem kword_any (W : World) : Calls Try.prog 9 #[.agg #[.bool true, .int .u64 5]] W fun e w' => e = .returned (.tuple #[.int .u64 9223372036854775813, .int .i64 0]) ∧ Fr0 W w' := nword_any (dn := true) (n := 5) (by decide)
set_option maxHeartbeats 4000000 in
set_option maxRecDepth 100000 in
theorem known06_any (w : World) : Calls Try.prog 13 #[] w fun e w' => e = .returned (.bool true) ∧ Fr0 w w' := by
  have hcv := fun (w : World) (C : Array Value) (n c : Nat) => Lib.run_convert_bytes_const (P := Try.prog) w 35 5 C n c Try.underlying35 Try.underlying5
  have q1 : ((str [97, 98, 99]).toList == [97, 98, 99]) = true := by rw [ByteArray.toList_eq]; rfl
  have HK := Lib.hid (show (Try.prog.info? 34).map (·.size) = some kKey.size by kernel_rfl)
  have HKZ := Lib.hid (show z48A.size = kKey.size by rfl)
  have hka : kKey.all (·.oneCell') = true := byts_all _
  have HS := Lib.hid (fun W tv h => kseal_any (W := W) (tv := tv) h)
  have HO := Lib.hid (fun W v h => kopen_any (W := W) (v := v) h)
  have HW := Lib.hid kword_any
  obtain ⟨PK, hPK⟩ : ∃ p, p = packL kCode kMark (wordL true 5) kABC := ⟨_, rfl⟩
  rw [← hPK] at HS HO
  obtain ⟨z, hz⟩ : ∃ z, z = z48A := ⟨_, rfl⟩
  have HRUN := Lib.hid (fun W => z48_run W)
  rw [← hz] at HRUN HKZ
  clear hPK hz
  go_enter Try.func13, Try.ntmps13
  go_upto_region 1 with (fail)
  apply wp_region_lit
  refine list_val rfl (.agg k16) (by kernel_rfl) ?_
  refine list_val rfl (.agg k32) (by kernel_rfl) ?_
  refine list_val rfl (.agg kKey) (by kernel_rfl) ?_
  refine list_alloc_blk rfl 34 rfl z HRUN.out ?_
  intro g1 w1 hB hF hl
  refine list_store_blk rfl 34 _ _ rfl g1 kKey rfl rfl 34 z hB HK.out HKZ.out hka ?_
  intro w2 hB2 hF2
  have K := Lib.hid hB2
  have F2 := Lib.hid (Fr0.new hF hF2 hl)
  clear hB hF hl hB2 hF2
  go_wp2_with (first
    | (have _q := F5; go_at_call 9; refine (HW.out _).mono ?_; rintro e w6 ⟨rfl, hf⟩; have F6 := Lib.hid (Fr0.trans F5.out hf); have x0 := ((X5.out).fr0 hf).cell 0 rfl; have x1 := ((X5.out).fr0 hf).cell 1 rfl; have hcs := conv_ownN (n := 3) rfl ((R5.out).fr0 hf); rw [show kABC = [97, 98, 99] from rfl] at hcs; clear hf)
    | (have _q := R3; go_at_call 16; refine (HO.out _ _ R3.out).mono ?_; rintro e w4 ⟨A4, c4, rfl, hr, hf⟩; have F5 := Lib.hid ((Fr0.trans F3.out hf).alloc (.cells #[.bool true, .int .u64 5] 24)); have X5 := Lib.hid (Blk.new w4 #[.bool true, .int .u64 5] 24); have R5 := Lib.hid (hr.fr0 ((Fr0.refl w4).alloc (.cells #[.bool true, .int .u64 5] 24))); clear hr hf)
    | (go_at_call 14; refine (HS.out _ _ (lit_bytes w2 5 kABC (by decide) (3, 4))).mono ?_; rintro e w3 ⟨A3, c3, rfl, hr, hf⟩; have F3 := Lib.hid (Fr0.trans ((F2.out).alloc _) hf); have K3 := Lib.hid (((K.out).alloc _).fr0 hf); have R3 := Lib.hid hr; clear hr hf)
    | (have _q := K3; refine list_load_blk rfl 34 _ rfl g1 rfl 34 kKey K3.out _ Try.underlying34 rfl HK.out ?_)
    | (refine list_load_blk rfl 34 _ rfl g1 rfl 34 kKey K.out _ Try.underlying34 rfl HK.out ?_))
  go_ret
  exact ⟨rfl, F6.out⟩
end Go.Proofs.Ytpmindbipclphaa
set_option linter.unusedSimpArgs false
set_option linter.unusedVariables false
set_option linter.constructorNameAsVariable false
namespace Go.Proofs.Ytpmindbipclphaa
open Go.RowKit Go.ChangeShapes Go.WideShapes Go.ChangeAt

section
variable {H : Type} {enc : TypeId × Value → H} {w : World} {base : Nat} {spare : Nat → Bool} {held : Bool}
set_option maxRecDepth 100000 in
theorem arg_nonce {b0 : Nat} {r : Reach} {v : Value} {d : DataW H} {ps : List MemPlace} (hv : Value.okWide Try.prog w r b0 24 v) (h : DataW.Trod enc Try.prog w base spare held 24 v d ps) : ∃ (dn : Bool) (n : Nat), v = nonceV dn n ∧ n < 18446744073709551616 := by
  obtain ⟨cs, rfl, _⟩ := okWide_struct Try.underlying24 hv
  obtain ⟨fuel, hf0⟩ := h
  have hf : DataW.trod enc Try.prog w base spare held fuel 24 cs.toList = some (d, ps) := hf0
  obtain ⟨hl, hr⟩ := read_fields (k := 2) Try.underlying24 (by kernel_rfl) (by kernel_rfl) hf
  have hcs : cs = cs.toList.toArray := by simp
  obtain ⟨l, e⟩ : ∃ l, l = cs.toList := ⟨_, rfl⟩
  rw [← e] at hcs
  have hl' : l.length = 2 := by rw [e]; exact hl
  match l, hl' with
  | [a, b], _ =>
    have hg : ∀ j (hj : j < 2), cs.toList[j]'(by rw [← e]; simpa using hj) = [a, b][j]'(by simpa using hj) := fun j hj => by simp [← e]
    obtain ⟨m, y, hy⟩ := hr 0 (by rw [← e]; simp) _ rfl
    rw [hg 0 (by omega)] at hy
    obtain ⟨z0, h0⟩ := read_bool Try.underlying4 hy
    obtain ⟨m, y, hy⟩ := hr 1 (by rw [← e]; simp) _ rfl
    rw [hg 1 (by omega)] at hy
    obtain ⟨q, hq, _, hw⟩ := DataW.trod_int Try.underlying22 hy
    obtain ⟨n, rfl, hn⟩ := lit_u64 hw
    simp only [List.getElem_cons_zero, List.getElem_cons_succ, List.cons.injEq, and_true] at h0 hq
    exact ⟨z0, n, by rw [hcs, h0, hq]; rfl, hn⟩
end
end Go.Proofs.Ytpmindbipclphaa
set_option linter.unusedSimpArgs false
set_option linter.unusedVariables false
set_option linter.constructorNameAsVariable false
namespace Go.Proofs.Ytpmindbipclphaa
open Go.RowKit Go.ChangeShapes Go.WideShapes Go.ChangeAt

section
variable {H : Type} {enc : TypeId × Value → H} {w : World} {base : Nat} {spare : Nat → Bool} {held : Bool}
set_option maxRecDepth 100000 in
theorem arr_bytes {t : TypeId} {n fuel : Nat} {cs : List Value} {x : DataW H × List MemPlace} (ht : Try.prog.underlying t = some (.array n 5)) (hn : Try.prog.cellsOf t = n) (h : DataW.trod enc Try.prog w base spare held fuel t cs = some x) : ∃ d : List UInt8, cs = byts d ∧ d.length = n := by
  obtain ⟨zs, h1, h2, h3⟩ := arr_ints ht Try.underlying5 (by kernel_rfl) hn h
  obtain ⟨d, hd, hl⟩ := bytes_of_ints h3
  refine ⟨d, ?_, by rw [hl, h2]⟩
  rw [h1]
  have := congrArg Array.toList hd
  simpa [iArr] using this
set_option maxRecDepth 100000 in
theorem arg_key {b0 : Nat} {r : Reach} {v : Value} {d : DataW H} {ps : List MemPlace} (hv : Value.okWide Try.prog w r b0 34 v) (h : DataW.Trod enc Try.prog w base spare held 34 v d ps) : ∃ code mark : List UInt8, v = .agg (byts (code ++ mark)).toArray ∧ code.length = 16 ∧ mark.length = 32 := by
  obtain ⟨cs, rfl, _⟩ := okWide_struct Try.underlying34 hv
  obtain ⟨fuel, hf0⟩ := h
  have hf : DataW.trod enc Try.prog w base spare held fuel 34 cs.toList = some (d, ps) := hf0
  obtain ⟨y0, y1, n, -, hl, h0, h1⟩ := trod_struct2 Try.underlying34 hf
  obtain ⟨code, e0, l0⟩ := arr_bytes Try.underlying31 (by kernel_rfl) h0
  obtain ⟨mark, e1, l1⟩ := arr_bytes Try.underlying32 (by kernel_rfl) h1
  refine ⟨code, mark, ?_, l0, l1⟩
  have hl2 : cs.toList.length = 48 := hl.trans (by kernel_rfl)
  have e0' : cs.toList.take 16 = byts code := e0
  have e1' : (cs.toList.drop 16).take 32 = byts mark := e1
  rw [List.take_of_length_le (by rw [List.length_drop]; omega)] at e1'
  have hcs : cs = cs.toList.toArray := by simp
  rw [hcs, ← List.take_append_drop 16 cs.toList, e0', e1']
  simp [byts]
end
end Go.Proofs.Ytpmindbipclphaa
set_option linter.unusedSimpArgs false
set_option linter.unusedVariables false
namespace Go.Proofs.Ytpmindbipclphaa
open Go.RowKit

theorem nonce_eqlP (da : Bool) (na : Int) (db : Bool) (nb : Int) (W : World) : (binOp .eql 24 (.agg #[.bool da, .int .u64 na]) (.agg #[.bool db, .int .u64 nb])).run Try.prog W = .ok (.bool (decide (da = db ∧ na = nb))) W := by
  go_simp
  by_cases h1 : da = db <;> by_cases h2 : na = nb <;> simp [h1, h2]
theorem peek_ret {tmps : Array Value} {W : World} {g : Nat} {cs : Array Value} {u : Value} (hg : Blk W g cs 24) (hs : cs.size = 2) (h2 : tmps.getD 2 undef = .pointer (some ⟨g, 0, none⟩)) (h3 : tmps.getD 3 undef = u) :
    (results Try.f19 tmps).run Try.prog W = .ok (.tuple #[.agg cs, u]) W := by
  rw [results_cell_tmp rfl, h2, h3]
  have hl := run_loadVar_row (P := Try.prog) W g 24 24 cs (0, 0) _ hg Try.underlying24 rfl (by rw [hs]; kernel_rfl)
  simp [asAddr, Result.andThen, hl]
set_option maxHeartbeats 4000000 in
set_option maxRecDepth 10000 in
theorem peek_bad {b : List UInt8} {v : Value} {w : World} (hb : RdB w v b) (h : b.length < 24 ∨ 1224 < b.length) :
    Calls Try.prog 19 #[v] w fun e w' => e = .returned (.tuple #[nonceV false 0, .int .i64 4]) ∧ Fr0 w w' := by
  have HP := Lib.hid (fun W (hf : Fr0 w W) => parts_bad (hb.fr0 hf) h)
  have F0 := Lib.hid ((Fr0.refl w).alloc (.cells #[.bool false, .int .u64 0] 24))
  have Z := Lib.hid (Blk.new w #[.bool false, .int .u64 0] 24)
  clear hb h
  go_enter Try.func19, Try.ntmps19
  go_wp2_with (go_at_call 26; refine (HP.out _ F0.out).mono ?_; rintro e w3 ⟨rfl, rfl⟩)
  exact bodyPost_ret (v := .tuple #[nonceV false 0, .int .i64 4]) (peek_ret Z.out rfl rfl rfl) rfl ⟨rfl, F0.out⟩
set_option maxHeartbeats 4000000 in
set_option maxRecDepth 10000 in
theorem peek_good {b : List UInt8} {v : Value} {w : World} (hb : RdB w v b) (h : 24 ≤ b.length) (h2 : b.length ≤ 1224) :
    Calls Try.prog 19 #[v] w fun e w' => e = .returned (.tuple #[nonceV (ofD (wdL (b.take (b.length - 16)))) (ofN (wdL (b.take (b.length - 16)))), .int .i64 0]) ∧ Fr0 w w' := by
  have HP0 := Lib.hid (fun W (hf : Fr0 w W) => parts_good (hb.fr0 hf) h h2)
  obtain ⟨k, hk⟩ : ∃ k, k = b.length - 16 := ⟨_, rfl⟩
  rw [← hk] at HP0 ⊢
  have hkl : (b.take k).length = k := by rw [List.length_take]; omega
  obtain ⟨hd, hhd⟩ : ∃ t, t = b.take k := ⟨_, rfl⟩
  obtain ⟨tg, htg⟩ : ∃ t, t = b.drop k := ⟨_, rfl⟩
  rw [← hhd] at hkl HP0 ⊢
  rw [← htg] at HP0
  have HP := Lib.hid (fun W (hf : Fr0 w W) => (HP0.out W hf).mono (R' := fun e w' => ∃ A1 c1 A2 c2, e = .returned (.tuple #[.slice A1 k c1, .slice A2 tg.length c2, .bool true]) ∧ RdB w' (.slice A1 k c1) hd ∧ Fr0 W w') (by
    rintro e w' ⟨v1, v2, rfl, r1, r2, hf⟩
    obtain ⟨A1, c1, rfl, -⟩ := r1.form
    obtain ⟨A2, c2, rfl, -⟩ := r2.form
    have r1' := r1.fr0 hf
    rw [hkl] at r1' ⊢
    exact ⟨A1, c1, A2, c2, rfl, r1', hf⟩))
  have hw := wdL_lt hd
  have HWO := Lib.hid (fun W v (hr : RdB W v hd) => open_any hr (by omega))
  have HRF := Lib.hid (fun p A c W (h : RdrV W p A c hd 0) => rfixed_any h (show hd.length ≤ 100000000 by omega) (size := 8) (by omega))
  have HOF := Lib.hid (fun W => nof_any (w := W) hw)
  have HWD := Lib.hid (show (rFixed hd 0 8).1 = wdL hd from rfl)
  rw [HWD.out] at HRF
  have F0 := Lib.hid ((Fr0.refl w).alloc (.cells #[.bool false, .int .u64 0] 24))
  have Z0 := Lib.hid (Blk.new w #[.bool false, .int .u64 0] 24)
  obtain ⟨wd, hwd⟩ : ∃ t, t = wdL hd := ⟨_, rfl⟩
  rw [← hwd] at HRF HOF ⊢
  obtain ⟨D, hD⟩ : ∃ t, t = ofD wd := ⟨_, rfl⟩
  obtain ⟨N, hN⟩ : ∃ t, t = ofN wd := ⟨_, rfl⟩
  rw [← hD, ← hN] at HOF ⊢
  unfold nonceV at HOF ⊢
  clear hb h h2 hk hkl hhd htg hw hwd hD hN HP0 HWD
  by_cases hz : D = false ∧ N = 0
  · obtain ⟨rfl, rfl⟩ := hz
    go_enter Try.func19, Try.ntmps19
    go_upto_region 6 with (first
      | (have _q := R9; go_at_call 29; refine (HRF.out _ _ _ _ R9.out).mono ?_; rintro e w10 ⟨rfl, hf1, -⟩; have U10 := Lib.hid (Fr0.new U9.out hf1 (Nat.le_trans (Nat.le_refl _) P9.out)); clear hf1)
      | (have _q := U3; go_at_call 28; refine (HWO.out _ _ HD3.out).mono ?_; rintro e w9 ⟨p, v', rfl, hbk, hown, hf, hp⟩; obtain ⟨Ar, cr, rfl, -, -, -⟩ := own_form hown; have R9 := Lib.hid (show RdrV w9 p Ar cr hd 0 from ⟨hbk, RdB.of_own hown, TyB.of_own hown⟩); have U9 := Lib.hid hf; have P9 := Lib.hid hp; clear hbk hown hf hp)
      | (have _q := U10; go_at_call 11; refine (HOF.out _).mono ?_; rintro e w11 ⟨rfl, hf⟩; have U11 := Lib.hid (Fr0.trans U10.out hf); have FE := Lib.hid (Fr0.trans (Fr0.trans F3.out U10.out) hf); have ZE := Lib.hid (((Z3.out).fr0 U10.out).fr0 hf); clear hf)
      | (go_at_call 26; refine (HP.out _ F0.out).mono ?_; rintro e w3 ⟨A1, c1, A2, c2, rfl, r1, hf⟩; have F3 := Lib.hid (Fr0.trans F0.out hf); have U3 := Lib.hid hf; have Z3 := Lib.hid ((Z0.out).fr0 hf); have HD3 := Lib.hid r1; clear r1 hf))
    obtain ⟨w12, hw12⟩ : ∃ W, W = (w11.alloc (.cells #[.bool false, .int .u64 0] 24)).alloc (.cells #[.bool false, .int .u64 0] 24) := ⟨_, rfl⟩
    have ZB : Blk w12 w.heap.size #[.bool false, .int .u64 0] 24 := by rw [hw12]; exact ((ZE.out).alloc _).alloc _
    have FB : Fr0 w w12 := by rw [hw12]; exact ((FE.out).alloc _).alloc _
    have N7 : Blk w12 w11.heap.size #[.bool false, .int .u64 0] 24 := by rw [hw12]; exact (Blk.new w11 _ _).alloc _
    have N8 : Blk w12 (w11.heap.size + 1) #[.bool false, .int .u64 0] 24 := by rw [hw12]; have h := Blk.new (w11.alloc (.cells #[.bool false, .int .u64 0] 24)) #[.bool false, .int .u64 0] 24; rw [World.size_alloc] at h; exact h
    rw [← hw12]
    clear hw12
    have z0 := ZB.cell 0 rfl
    have z1 := ZB.cell 1 rfl
    have y0 := ZB.free 0
    have y1 := ZB.free 1
    have n0 := N7.cell 0 rfl
    have n1 := N7.cell 1 rfl
    have m0 := N8.cell 0 rfl
    have m1 := N8.cell 1 rfl
    have ZR := Lib.hid (show Blk ((w12.setCell ⟨w.heap.size, 0, none⟩ (.bool false)).setCell ⟨w.heap.size, 1, none⟩ (.int .u64 0)) w.heap.size #[.bool false, .int .u64 0] 24 from (ZB.set 0 _).set 1 _)
    have FR := Lib.hid (Fr0.new FB (((Fr1.refl w.heap.size w12).set 0 (.bool false)).set 1 (.int .u64 0)) (Nat.le_refl _))
    clear ZB N7 N8 FB
    go_wp2_with fail
    exact bodyPost_ret (v := .tuple #[.agg #[.bool false, .int .u64 0], .int .i64 0]) (peek_ret ZR.out rfl rfl rfl) rfl ⟨rfl, FR.out⟩
  · have HE := fun W => nonce_eqlP D (N : Int) false 0 W
    have hz2 : ¬ (D = false ∧ (N : Int) = 0) := fun h => hz ⟨h.1, by omega⟩
    rw [decide_eq_false hz2] at HE
    clear hz hz2
    go_enter Try.func19, Try.ntmps19
    go_upto_region 7 with (first
      | (have _q := R9; go_at_call 29; refine (HRF.out _ _ _ _ R9.out).mono ?_; rintro e w10 ⟨rfl, hf1, -⟩; have U10 := Lib.hid (Fr0.new U9.out hf1 (Nat.le_trans (Nat.le_refl _) P9.out)); clear hf1)
      | (have _q := U3; go_at_call 28; refine (HWO.out _ _ HD3.out).mono ?_; rintro e w9 ⟨p, v', rfl, hbk, hown, hf, hp⟩; obtain ⟨Ar, cr, rfl, -, -, -⟩ := own_form hown; have R9 := Lib.hid (show RdrV w9 p Ar cr hd 0 from ⟨hbk, RdB.of_own hown, TyB.of_own hown⟩); have U9 := Lib.hid hf; have P9 := Lib.hid hp; clear hbk hown hf hp)
      | (have _q := U10; go_at_call 11; refine (HOF.out _).mono ?_; rintro e w11 ⟨rfl, hf⟩; have U11 := Lib.hid (Fr0.trans U10.out hf); have FE := Lib.hid (Fr0.trans (Fr0.trans F3.out U10.out) hf); have ZE := Lib.hid (((Z3.out).fr0 U10.out).fr0 hf); clear hf)
      | (go_at_call 26; refine (HP.out _ F0.out).mono ?_; rintro e w3 ⟨A1, c1, A2, c2, rfl, r1, hf⟩; have F3 := Lib.hid (Fr0.trans F0.out hf); have U3 := Lib.hid hf; have Z3 := Lib.hid ((Z0.out).fr0 hf); have HD3 := Lib.hid r1; clear r1 hf))
    obtain ⟨w12, hw12⟩ : ∃ W, W = (w11.alloc (.cells #[.bool D, .int .u64 (N : Int)] 24)).alloc (.cells #[.bool false, .int .u64 0] 24) := ⟨_, rfl⟩
    have ZB : Blk w12 w.heap.size #[.bool false, .int .u64 0] 24 := by rw [hw12]; exact ((ZE.out).alloc _).alloc _
    have FB : Fr0 w w12 := by rw [hw12]; exact ((FE.out).alloc _).alloc _
    have N7 : Blk w12 w11.heap.size #[.bool D, .int .u64 (N : Int)] 24 := by rw [hw12]; exact (Blk.new w11 _ _).alloc _
    have N8 : Blk w12 (w11.heap.size + 1) #[.bool false, .int .u64 0] 24 := by rw [hw12]; have h := Blk.new (w11.alloc (.cells #[.bool D, .int .u64 (N : Int)] 24)) #[.bool false, .int .u64 0] 24; rw [World.size_alloc] at h; exact h
    rw [← hw12]
    clear hw12
    have z0 := ZB.cell 0 rfl
    have z1 := ZB.cell 1 rfl
    have y0 := ZB.free 0
    have y1 := ZB.free 1
    have n0 := N7.cell 0 rfl
    have n1 := N7.cell 1 rfl
    have m0 := N8.cell 0 rfl
    have m1 := N8.cell 1 rfl
    have ZR := Lib.hid (show Blk ((w12.setCell ⟨w.heap.size, 0, none⟩ (.bool D)).setCell ⟨w.heap.size, 1, none⟩ (.int .u64 (N : Int))) w.heap.size #[.bool D, .int .u64 (N : Int)] 24 from (ZB.set 0 _).set 1 _)
    have FR := Lib.hid (Fr0.new FB (((Fr1.refl w.heap.size w12).set 0 (.bool D)).set 1 (.int .u64 (N : Int))) (Nat.le_refl _))
    clear ZB N7 N8 FB
    go_wp2_with fail
    exact bodyPost_ret (v := .tuple #[.agg #[.bool D, .int .u64 (N : Int)], .int .i64 0]) (peek_ret ZR.out rfl rfl rfl) rfl ⟨rfl, FR.out⟩
end Go.Proofs.Ytpmindbipclphaa
namespace Go.Proofs.Ytpmindbipclphaa
open Go.RowKit

/-- The reference's reader, its slice named. -/
structure RefV (B0 : Nat) (w : World) (p : Nat) (A : Option Addr) (c : Nat) (d : List UInt8) (e : Int) : Prop where
  blk : Blk w p #[.slice A d.length c, .int .i64 e] 61
  rd : RdB w (.slice A d.length c) d
  lt : 0 < d.length → ∀ g, Value.blk (.slice A d.length c) = some g → g < B0
  ge : B0 ≤ p
section
variable {w w' : World} {B0 p : Nat} {A : Option Addr} {c : Nat} {d : List UInt8} {e : Int}
theorem RefV.ne (h : RefV B0 w p A c d e) : 0 < d.length → Value.blk (.slice A d.length c) ≠ some p := fun h0 hp => by have := h.lt h0 p hp; have := h.ge; omega
theorem RefV.fr0 (h : RefV B0 w p A c d e) (hf : Fr0 w w') : RefV B0 w' p A c d e := ⟨h.blk.fr0 hf, h.rd.fr0 hf, h.lt, h.ge⟩
theorem RefV.fr1 (h : RefV B0 w p A c d e) {q : Nat} (hf : Fr1 q w w') (hq : B0 ≤ q) (hpq : p ≠ q) : RefV B0 w' p A c d e :=
  ⟨h.blk.fr1 hf hpq, RdB.fr1 h.rd hf (fun h0 hp => by have := h.lt h0 q hp; omega), h.lt, h.ge⟩
theorem RefV.err (h : RefV B0 w p A c d e) (e' : Int) : RefV B0 (w.setCell ⟨p, 1, none⟩ (.int .i64 e')) p A c d e' :=
  ⟨h.blk.set 1 _, RdB.fr1 h.rd ((Fr1.refl p w).set 1 _) h.ne, h.lt, h.ge⟩
theorem RefV.cut (h : RefV B0 w p A c d e) {k : Nat} {A' : Option Addr} (hr : RdB w (.slice A' (d.length - k) (c - k)) (d.drop k)) (hb : ∀ g, Value.blk (.slice A' (d.length - k) (c - k)) = some g → Value.blk (.slice A d.length c) = some g) :
    RefV B0 (w.setCell ⟨p, 0, none⟩ (.slice A' (d.length - k) (c - k))) p A' (c - k) (d.drop k) e := by
  have hl : (d.drop k).length = d.length - k := List.length_drop
  have hne : 0 < (d.drop k).length → Value.blk (.slice A' (d.length - k) (c - k)) ≠ some p := fun h0 hp => h.ne (by omega) (hb p hp)
  refine ⟨?_, ?_, ?_, h.ge⟩
  · rw [hl]; exact h.blk.set 0 _
  · rw [hl]; exact RdB.fr1 hr ((Fr1.refl p w).set 0 _) hne
  · rw [hl]; intro h0 g hg; exact h.lt (by omega) g (hb g hg)
end

end Go.Proofs.Ytpmindbipclphaa
namespace Go.Proofs.Ytpmindbipclphaa
open Go.RowKit

set_option maxHeartbeats 1000000 in
set_option maxRecDepth 100000 in
theorem ffixed_any {B0 p : Nat} {A : Option Addr} {c : Nat} {d : List UInt8} {e : Int} {size : Int} {w : World} (h : RefV B0 w p A c d e) (_hn : d.length ≤ 100000000) (hm : -9223372036854775808 ≤ size ∧ size ≤ 9223372036854775807) :
    Calls Try.prog 31 #[.pointer (some ⟨p, 0, none⟩), .int .i64 size] w fun x w' => x = .returned (.int .u64 ((rFixed d e size).1 : Nat)) ∧ Fr1 p w w' ∧ ∃ A' c', RefV B0 w' p A' c' (rFixed d e size).2.1 (rFixed d e size).2.2 := by
  have c0 : w.cell? ⟨p, 0, none⟩ = some (.slice A d.length c) := h.blk.cell 0 rfl
  have c1 : w.cell? ⟨p, 1, none⟩ = some (.int .i64 e) := h.blk.cell 1 rfl
  have f0 : w.frozen? ⟨p, 0, none⟩ = false := h.blk.free 0
  have f1 : w.frozen? ⟨p, 1, none⟩ = false := h.blk.free 1
  have H := Lib.hid h
  by_cases he : e = 0
  · have b0 : (e != 0) = false := by simpa using he
    by_cases hbad : size < 1 ∨ 8 < size ∨ (d.length : Int) < size
    · have e1 : rFixed d e size = (0, d, 4) := by unfold rFixed fStep; rw [if_neg (by simpa using he), if_pos hbad, if_pos (by simp)]
      have E1 := Lib.hid e1
      by_cases k0 : size < 1
      · have q0 : decide (size < 1) = true := by simpa using k0
        clear k0 e1 he h hbad
        go_enter Try.func31, Try.ntmps31
        go_wp2_with fail
        go_ret
        rw [E1.out]
        exact ⟨rfl, (Fr1.refl p w).set 1 _, A, c, (H.out).err 4⟩
      · have q0 : decide (size < 1) = false := by simpa using k0
        by_cases k1 : 8 < size
        · have q1 : decide (8 < size) = true := by simpa using k1
          clear k0 k1 e1 he h hbad
          go_enter Try.func31, Try.ntmps31
          go_wp2_with fail
          go_ret
          rw [E1.out]
          exact ⟨rfl, (Fr1.refl p w).set 1 _, A, c, (H.out).err 4⟩
        · have q1 : decide (8 < size) = false := by simpa using k1
          have q2 : decide ((d.length : Int) < size) = true := by simp; omega
          clear k0 k1 e1 he h hbad
          go_enter Try.func31, Try.ntmps31
          go_wp2_with fail
          go_ret
          rw [E1.out]
          exact ⟨rfl, (Fr1.refl p w).set 1 _, A, c, (H.out).err 4⟩
    · obtain ⟨k, rfl⟩ : ∃ k : Nat, size = k := ⟨size.toNat, by omega⟩
      have e1 : rFixed d e (k : Int) = (fixVal (d.take k), d.drop k, 0) := by unfold rFixed fStep; rw [if_neg (by simpa using he), if_neg hbad, if_neg (by simp)]; rfl
      have E1 := Lib.hid e1
      have HE := Lib.hid he
      have q0 : decide ((k : Int) < 1) = false := by simp; omega
      have q1 : decide (8 < (k : Int)) = false := by simp; omega
      have q2 : decide ((d.length : Int) < (k : Int)) = false := by simp; omega
      have k8 : k ≤ 8 := by omega
      have kd : k ≤ d.length := by omega
      obtain ⟨A', hsl, hr2, hbk⟩ := slice_from (P := Try.prog) (T := 35) (e := 5) Try.underlying35 (fun _ => by kernel_rfl) (k := k) h.rd kd (k : Int) rfl
      have HR2 := Lib.hid hr2
      have HBK := Lib.hid hbk
      clear e1 he h hbad hr2 hbk hm
      go_enter Try.func31, Try.ntmps31
      go_wp2_with fail
      go_loopw [5, 6] (fun v5 v6 wr => wr = w ∧ ∃ (i n : Nat), v5 = .int .u64 (n : Int) ∧ v6 = .int .i64 (i : Int) ∧ i ≤ k ∧ n = fixVal (d.take i)) (fun _ v6 _ => k - (intOf v6).toNat)
      case atStart => exact ⟨rfl, 0, 0, rfl, rfl, by omega, by simp [fixVal]⟩
      case round =>
        obtain ⟨hww, i, n, rfl, rfl, hiW, hr⟩ := hrel
        obtain rfl : w = wr := hww.symm
        by_cases hlt : i < k
        · have a1 : decide ((i : Int) < (k : Int)) = true := by simp; omega
          have hid : i < d.length := by omega
          obtain ⟨g, off, c', hv, hic, hg, hc⟩ := (H.out).rd.cell hid
          injection hv with hA _ hcc
          subst hA hcc
          have hn7 : n ≤ 72057594037927935 := by
            have := fixVal_lt (d.take i)
            rw [← hr, List.length_take] at this
            have h7 : min i d.length ≤ 7 := by omega
            have := Nat.pow_le_pow_right (show 0 < 256 by omega) h7
            omega
          have hr2 : n * 256 + (d[i]).toNat = fixVal (d.take (i + 1)) := by rw [hr, ← fixVal_snoc]; simp
          obtain ⟨y, hy⟩ : ∃ y, y = (d[i]).toNat := ⟨_, rfl⟩
          have hxl : y < 256 := by rw [hy]; exact (d[i]).toNat_lt
          rw [← hy] at hc hr2
          have Hr := Lib.hid hr2
          have ei : w.cell? ⟨g, off + i, none⟩ = some (.int .u8 (y : Int)) := hc
          have i0 : (i : Int) < (d.length : Int) := by omega
          have ew : IntKind.u64.wrap ((n : Int) * 256) = (n : Int) * 256 := by show (n : Int) * 256 % 18446744073709551616 = _; omega
          have ew2 : IntKind.u64.wrap (y : Int) = (y : Int) := by show (y : Int) % 18446744073709551616 = _; omega
          have ew3 : IntKind.u64.wrap ((n : Int) * 256 + (y : Int)) = (n : Int) * 256 + (y : Int) := by show ((n : Int) * 256 + (y : Int)) % 18446744073709551616 = _; omega
          clear hr hr2 hc hy
          go_wp2_with fail
          go_roundw
          case rel => exact ⟨trivial, i + 1, n * 256 + y, by go_num, by go_num, by omega, Hr.out⟩
          case measure => simp [intOf]; omega
        · have a1 : decide ((i : Int) < (k : Int)) = false := by simp; omega
          have e : i = k := by omega
          subst e
          have Hr := Lib.hid hr
          clear hr
          go_wp2_with fail
          go_ret
          rw [E1.out, Hr.out]
          have := (H.out).cut HR2.out HBK.out
          rw [HE.out] at this
          exact ⟨rfl, (Fr1.refl p w).set 0 _, A', _, this⟩
  · have b0 : (e != 0) = true := by simpa using he
    have e1 : rFixed d e size = (0, d, e) := by unfold rFixed; rw [if_pos he]
    have E1 := Lib.hid e1
    clear e1 he h
    go_enter Try.func31, Try.ntmps31
    go_wp2_with fail
    go_ret
    rw [E1.out]
    exact ⟨rfl, Fr1.refl _ _, A, c, H.out⟩

end Go.Proofs.Ytpmindbipclphaa
set_option linter.unusedSimpArgs false
set_option linter.unusedVariables false
namespace Go.Proofs.Ytpmindbipclphaa
open Go.RowKit

/-- 'd[:k]', its value under a name. -/
theorem slice_h {w : World} {A : Option Addr} {c n k : Nat} {d : List UInt8} (h : RdB w (.slice A n c) d) (hn : n = d.length) (hk : k ≤ n) :
    (∀ w', (Instr.slice 35 (.slice A n c) none (some (.int .i64 (k : Int))) none).run Try.prog w' = .ok (.slice A k c) w') ∧ RdB w (.slice A k c) (d.take k) := by
  subst hn
  have hel : (Try.prog).elem 35 = 5 := by simp [Program.elem, Try.underlying35]
  have hsz : ∀ w', (sizeOf 5).run Try.prog w' = .ok 1 w' := fun w' => by kernel_rfl
  have hnc : d.length ≤ c := by obtain ⟨A', c', hv, h1, _⟩ := h.form; injection hv with _ _ hc; omega
  refine ⟨fun w' => ?_, ?_⟩
  · rw [run_slice_h (w := w') 35 A d.length c (by rw [hel]; exact Try.underlying35) .i64 (k : Int) (by omega) (by omega), hel, hsz w']
    cases A <;> simp [Result.andThen, sliced, Addr.add]
  · have h1 := h.take hk
    have hl : (d.take k).length = k := by rw [List.length_take]; omega
    rw [show RdB w (.slice A k c) (d.take k) = RdB w (.slice A (d.take k).length c) (d.take k) by rw [hl]]
    rw [hl]; exact h1
/-- 'd[i:k]', its value under a name. -/
theorem slice_lh {w : World} {A : Option Addr} {c n k i : Nat} {d : List UInt8} (h : RdB w (.slice A n c) d) (hn : n = d.length) (hk : k ≤ n) (hi : i ≤ k) :
    ∃ A', (∀ w', (Instr.slice 35 (.slice A n c) (some (.int .i64 (i : Int))) (some (.int .i64 (k : Int))) none).run Try.prog w' = .ok (.slice A' (k - i) (c - i)) w') ∧ RdB w (.slice A' (k - i) (c - i)) ((d.take k).drop i) := by
  subst hn
  have hel : (Try.prog).elem 35 = 5 := by simp [Program.elem, Try.underlying35]
  have hsz : ∀ w', (sizeOf 5).run Try.prog w' = .ok 1 w' := fun w' => by kernel_rfl
  have hnc : d.length ≤ c := by obtain ⟨A', c', hv, h1, _⟩ := h.form; injection hv with _ _ hc; omega
  have hl : (d.take k).length = k := by rw [List.length_take]; omega
  refine ⟨if c = i then A else A.map (·.add i), fun w' => ?_, ?_⟩
  · rw [run_slice_lh (w := w') 35 A d.length c (by rw [hel]; exact Try.underlying35) .i64 .i64 (i : Int) (k : Int) (by omega) (by omega) (by omega), hel, hsz w']
    simp [Result.andThen, sliced]
  · have h1 : RdB w (.slice A (d.take k).length c) (d.take k) := by rw [hl]; exact h.take hk
    have h2 := h1.drop (k := i) (by rw [hl]; exact hi)
    rw [hl] at h2
    exact h2
theorem ropen_ret {tmps : Array Value} {W : World} {g : Nat} {cs : Array Value} {u v : Value} (hg : Blk W g cs 24) (hs : cs.size = 2) (h2 : tmps.getD 4 undef = .pointer (some ⟨g, 0, none⟩)) (h3 : tmps.getD 5 undef = u) (h4 : tmps.getD 6 undef = v) :
    (results Try.f18 tmps).run Try.prog W = .ok (.tuple #[.agg cs, u, v]) W := by
  have hr : Try.f18.results = #[.cell 4 24, .tmp 5, .tmp 6] := rfl
  have hl := run_loadVar_row (P := Try.prog) W g 24 24 cs (0, 0) _ hg Try.underlying24 rfl (by rw [hs]; kernel_rfl)
  simp only [results, hr]
  rw [Array.getD_eq_getD_getElem?] at h2 h3 h4
  simp [Sem.run_bind, Result.andThen, h2, h3, h4, asAddr, hl]
theorem rpeek_ret {tmps : Array Value} {W : World} {g : Nat} {cs : Array Value} {u : Value} (hg : Blk W g cs 24) (hs : cs.size = 2) (h2 : tmps.getD 2 undef = .pointer (some ⟨g, 0, none⟩)) (h3 : tmps.getD 3 undef = u) :
    (results Try.f20 tmps).run Try.prog W = .ok (.tuple #[.agg cs, u]) W := by
  rw [results_cell_tmp rfl, h2, h3]
  have hl := run_loadVar_row (P := Try.prog) W g 24 24 cs (0, 0) _ hg Try.underlying24 rfl (by rw [hs]; kernel_rfl)
  simp [asAddr, Result.andThen, hl]
set_option maxHeartbeats 4000000 in
set_option maxRecDepth 10000 in
theorem ropen_bad {code mark b : List UInt8} {v : Value} {w : World} (hb : RdB w v b) (h : b.length < 24 ∨ 1224 < b.length) :
    Calls Try.prog 18 #[.agg (byts (code ++ mark)).toArray, v] w fun e w' => e = .returned (.tuple #[nonceV false 0, .slice none 0 0, .int .i64 4]) ∧ Fr0 w w' := by
  obtain ⟨A, c, rfl, -, -, -⟩ := hb.form
  have l63 := Rd.le63 hb
  obtain ⟨n, hn⟩ : ∃ n, n = b.length := ⟨_, rfl⟩
  rw [← hn] at h l63 ⊢
  have q1 : IntKind.i64.wrap ((n : Int) - 24) = (n : Int) - 24 := IntWalk.i64_in _ (by omega)
  obtain ⟨ck, hck⟩ : ∃ c, c = (byts (code ++ mark)).toArray := ⟨_, rfl⟩
  rw [← hck]
  have F0 := (((Fr0.refl w).alloc (.cells ck 34)).alloc (.cells #[.bool false, .int .u64 0] 24))
  have Z0 := Blk.new (w.alloc (.cells ck 34)) #[.bool false, .int .u64 0] 24
  rw [World.size_alloc] at Z0
  have z0 := Z0.cell 0 rfl
  have z1 := Z0.cell 1 rfl
  have y0 := Z0.free 0
  have y1 := Z0.free 1
  have ZR := Lib.hid Z0
  have FR := Lib.hid F0
  clear hn hb hck Z0 F0
  by_cases h1 : n < 24
  · have t1 : decide ((n : Int) < 24) = true := decide_eq_true (by omega)
    clear h h1
    go_enter Try.func18, Try.ntmps18
    go_wp2_with fail
    exact bodyPost_ret (v := .tuple #[nonceV false 0, .slice none 0 0, .int .i64 4]) (ropen_ret ZR.out rfl rfl rfl rfl) rfl ⟨rfl, FR.out⟩
  · have t1 : decide ((n : Int) < 24) = false := decide_eq_false (by omega)
    have t2 : decide ((1200 : Int) < (n : Int) - 24) = true := decide_eq_true (by omega)
    clear h h1
    go_enter Try.func18, Try.ntmps18
    go_wp2_with fail
    exact bodyPost_ret (v := .tuple #[nonceV false 0, .slice none 0 0, .int .i64 4]) (ropen_ret ZR.out rfl rfl rfl rfl) rfl ⟨rfl, FR.out⟩
set_option maxHeartbeats 4000000 in
set_option maxRecDepth 10000 in
theorem rpeek_bad {b : List UInt8} {v : Value} {w : World} (hb : RdB w v b) (h : b.length < 24 ∨ 1224 < b.length) :
    Calls Try.prog 20 #[v] w fun e w' => e = .returned (.tuple #[nonceV false 0, .int .i64 4]) ∧ Fr0 w w' := by
  obtain ⟨A, c, rfl, -, -, -⟩ := hb.form
  have l63 := Rd.le63 hb
  obtain ⟨n, hn⟩ : ∃ n, n = b.length := ⟨_, rfl⟩
  rw [← hn] at h l63 ⊢
  have q1 : IntKind.i64.wrap ((n : Int) - 24) = (n : Int) - 24 := IntWalk.i64_in _ (by omega)
  have F0 := ((Fr0.refl w).alloc (.cells #[.bool false, .int .u64 0] 24))
  have Z0 := Blk.new w #[.bool false, .int .u64 0] 24
  have z0 := Z0.cell 0 rfl
  have z1 := Z0.cell 1 rfl
  have y0 := Z0.free 0
  have y1 := Z0.free 1
  have ZR := Lib.hid Z0
  have FR := Lib.hid F0
  clear hn hb Z0 F0
  by_cases h1 : n < 24
  · have t1 : decide ((n : Int) < 24) = true := decide_eq_true (by omega)
    clear h h1
    go_enter Try.func20, Try.ntmps20
    go_wp2_with fail
    exact bodyPost_ret (v := .tuple #[nonceV false 0, .int .i64 4]) (rpeek_ret ZR.out rfl rfl rfl) rfl ⟨rfl, FR.out⟩
  · have t1 : decide ((n : Int) < 24) = false := decide_eq_false (by omega)
    have t2 : decide ((1200 : Int) < (n : Int) - 24) = true := decide_eq_true (by omega)
    clear h h1
    go_enter Try.func20, Try.ntmps20
    go_wp2_with fail
    exact bodyPost_ret (v := .tuple #[nonceV false 0, .int .i64 4]) (rpeek_ret ZR.out rfl rfl rfl) rfl ⟨rfl, FR.out⟩
set_option maxHeartbeats 4000000 in
set_option maxRecDepth 10000 in
theorem rpeek_good {b : List UInt8} {v : Value} {w : World} (hb : RdB w v b) (h : 24 ≤ b.length) (h2 : b.length ≤ 1224) :
    Calls Try.prog 20 #[v] w fun e w' => e = .returned (.tuple #[nonceV (ofD (wdL b)) (ofN (wdL b)), .int .i64 0]) ∧ Fr0 w w' := by
  obtain ⟨A, c, rfl, -, -, -⟩ := hb.form
  have hw := wdL_lt b
  have HRF := Lib.hid (fun B0 p W (h : RefV B0 W p A c b 0) => ffixed_any h (show b.length ≤ 100000000 by omega) (size := 8) (by omega))
  rw [show (rFixed b 0 8).1 = wdL b from rfl] at HRF
  have HOF := Lib.hid (fun W => nrof_any (w := W) hw)
  have R0 := Lib.hid (show RefV (w.heap.size + 1) ((w.alloc (.cells #[.bool false, .int .u64 0] 24)).alloc (.cells #[.slice A b.length c, .int .i64 0] 61)) (w.heap.size + 1) A c b 0 from ⟨by have h := Blk.new (w.alloc (.cells #[.bool false, .int .u64 0] 24)) #[.slice A b.length c, .int .i64 0] 61; rw [World.size_alloc] at h; exact h, hb.fr0 (((Fr0.refl w).alloc _).alloc _), fun h0 g hg => Nat.lt_succ_of_lt (Rd.blk_lt hb h0 g hg), Nat.le_refl _⟩)
  have F0 := Lib.hid (((Fr0.refl w).alloc (.cells #[.bool false, .int .u64 0] 24)).alloc (.cells #[.slice A b.length c, .int .i64 0] 61))
  have Z0 := Lib.hid ((Blk.new w #[.bool false, .int .u64 0] 24).alloc (.cells #[.slice A b.length c, .int .i64 0] 61))
  obtain ⟨n, hn⟩ : ∃ n, n = b.length := ⟨_, rfl⟩
  rw [← hn] at h h2 R0 F0 Z0 ⊢
  have q1 : IntKind.i64.wrap ((n : Int) - 24) = (n : Int) - 24 := IntWalk.i64_in _ (by omega)
  have t1 : decide ((n : Int) < 24) = false := decide_eq_false (by omega)
  have t2 : decide ((1200 : Int) < (n : Int) - 24) = false := decide_eq_false (by omega)
  obtain ⟨wd, hwd⟩ : ∃ t, t = wdL b := ⟨_, rfl⟩
  rw [← hwd] at HRF HOF ⊢
  obtain ⟨D, hD⟩ : ∃ t, t = ofD wd := ⟨_, rfl⟩
  obtain ⟨N, hN⟩ : ∃ t, t = ofN wd := ⟨_, rfl⟩
  rw [← hD, ← hN] at HOF ⊢
  unfold nonceV at HOF ⊢
  clear hb h h2 hn hw hwd hD hN
  go_enter Try.func20, Try.ntmps20
  go_wp2_with (first
    | (have _q := F2; go_at_call 12; refine (HOF.out _).mono ?_; rintro e w3 ⟨rfl, hf⟩; have ZB := (Z2.out).fr0 hf; have z0 := ZB.cell 0 rfl; have z1 := ZB.cell 1 rfl; have y0 := ZB.free 0; have y1 := ZB.free 1; have ZR := Lib.hid ((ZB.set 0 (.bool D)).set 1 (.int .u64 (N : Int))); have FR := Lib.hid (Fr0.new (Fr0.trans F2.out hf) (((Fr1.refl w.heap.size w3).set 0 (.bool D)).set 1 (.int .u64 (N : Int))) (Nat.le_refl _)); clear hf ZB)
    | (go_at_call 31; refine (HRF.out _ _ _ R0.out).mono ?_; rintro e w2 ⟨rfl, hf, -⟩; have F2 := Lib.hid (Fr0.new F0.out hf (Nat.le_succ _)); have Z2 := Lib.hid ((Z0.out).fr1 hf (by omega)); clear hf))
  exact bodyPost_ret (v := .tuple #[.agg #[.bool D, .int .u64 (N : Int)], .int .i64 0]) (rpeek_ret ZR.out rfl rfl rfl) rfl ⟨rfl, FR.out⟩
set_option maxHeartbeats 4000000 in
set_option maxRecDepth 10000 in
theorem ropen_good {code mark b : List UInt8} {v : Value} {w : World} (hc : code.length = 16) (hm : mark.length = 32) (hb : RdB w v b) (h : 24 ≤ b.length) (h2 : b.length ≤ 1224) :
    Calls Try.prog 18 #[.agg (byts (code ++ mark)).toArray, v] w fun e w' => ∃ v2, e = .returned (.tuple #[nonceV (openP code mark b).1.1 (openP code mark b).1.2, v2, .int .i64 (openP code mark b).2.2]) ∧ SlO w.heap.size w' v2 (openP code mark b).2.1 ∧ Fr0 w w' := by
  have HOP := Lib.hid (show openP code mark b = if b.drop (b.length - 16) = tagL mark (b.take (b.length - 16)) then ((ofD (wdL (b.take (b.length - 16))), ofN (wdL (b.take (b.length - 16)))), tnL code (wdL (b.take (b.length - 16))) ((b.take (b.length - 16)).drop 8), 0)
    else ((false, 0), [], 60) by unfold openP; rw [if_neg (by omega)])
  obtain ⟨Ab, cb, rfl, hcb, hcm, -⟩ := hb.form
  obtain ⟨k, hk⟩ : ∃ k, k = b.length - 16 := ⟨_, rfl⟩
  rw [← hk] at HOP
  obtain ⟨s1, r1⟩ := slice_h hb rfl (k := k) (by omega)
  obtain ⟨A2, s2, r2, -⟩ := slice_from (P := Try.prog) (T := 35) Try.underlying35 u8_size hb (show k ≤ b.length by omega) (k : Int) rfl
  obtain ⟨A3, s3, r3⟩ := slice_lh hb rfl (k := k) (i := 8) (by omega) (by omega)
  have hk8 : 8 ≤ k := by omega
  have hkl : (b.take k).length = k := by rw [List.length_take]; omega
  have hdl : (b.drop k).length = 16 := by rw [List.length_drop]; omega
  rw [show b.length - k = 16 by omega] at s2 r2
  obtain ⟨hd, hhd⟩ : ∃ t, t = b.take k := ⟨_, rfl⟩
  obtain ⟨tg, htg⟩ : ∃ t, t = b.drop k := ⟨_, rfl⟩
  rw [← hhd] at hkl HOP r1 r3
  rw [← htg] at hdl HOP r2
  have R1 := Lib.hid r1
  have R2 := Lib.hid r2
  have R3 := Lib.hid r3
  have hw := wdL_lt hd
  have HTG := Lib.hid (fun W (hf : Fr0 w W) => rtag_any (code := code) (mark := mark) hc hm (r1.fr0 hf) (by omega))
  have HRF := Lib.hid (fun B0 p W (h : RefV B0 W p Ab cb hd 0) => ffixed_any h (show hd.length ≤ 100000000 by omega) (size := 8) (by omega))
  rw [show (rFixed hd 0 8).1 = wdL hd from rfl] at HRF
  have HTN := Lib.hid (fun W (hf : Fr0 w W) => rturn5_any hc hw (r3.fr0 hf) (by rw [List.length_drop]; omega))
  have HOF := Lib.hid (fun W => nrof_any (w := W) hw)
  have HPI := Lib.hid (show (Try.prog.info? 31).map (·.size) = some (byts (((code ++ mark).drop 0).take 16)).length by rw [byts_len, List.drop_zero, List.length_take, List.length_append, hc, hm]; kernel_rfl)
  have HCD := Lib.hid (show ((code ++ mark).drop 0).take 16 = code by rw [List.drop_zero, ← hc, List.take_left])
  have HCK := Lib.hid (show (Try.prog.info? 34).map (·.size) = some (byts (code ++ mark)).toArray.size by rw [byts_size, List.length_append, hc, hm]; kernel_rfl)
  have K0 := Lib.hid ((Blk.new w (byts (code ++ mark)).toArray 34).alloc (.cells #[.bool false, .int .u64 0] 24))
  have F0 := Lib.hid (((Fr0.refl w).alloc (.cells (byts (code ++ mark)).toArray 34)).alloc (.cells #[.bool false, .int .u64 0] 24))
  have Z1 := Blk.new (w.alloc (.cells (byts (code ++ mark)).toArray 34)) #[.bool false, .int .u64 0] 24
  rw [World.size_alloc] at Z1
  have Z0 := Lib.hid Z1
  obtain ⟨wd, hwd⟩ : ∃ t, t = wdL hd := ⟨_, rfl⟩
  rw [← hwd] at HRF HTN HOF HOP hw
  obtain ⟨X, hX⟩ : ∃ t, t = hd.drop 8 := ⟨_, rfl⟩
  have HXL := Lib.hid (show X.length = k - 8 by rw [hX, List.length_drop, hkl])
  rw [← hX] at HTN HOP R3
  rw [HXL.out] at HTN
  obtain ⟨k8, hk8⟩ : ∃ t, t = k - 8 := ⟨_, rfl⟩
  rw [← hk8] at HTN HXL s3 R3
  obtain ⟨TX, hTX⟩ : ∃ t, t = tnL code wd X := ⟨_, rfl⟩
  have HTL := Lib.hid (show TX.length = k8 by rw [hTX, tnL_len, HXL.out])
  rw [← hTX] at HTN HOP
  have HML := Lib.hid (tagL_len mark hd)
  obtain ⟨tm, htm⟩ : ∃ t, t = tagL mark hd := ⟨_, rfl⟩
  rw [← htm] at HOP HTG HML
  obtain ⟨n, hn⟩ : ∃ n, n = b.length := ⟨_, rfl⟩
  rw [← hn] at h h2 s1 s2 s3 hcb hb hk ⊢
  have HB := Lib.hid hb
  have q1 : IntKind.i64.wrap ((n : Int) - 24) = (n : Int) - 24 := IntWalk.i64_in _ (by omega)
  have q2 : IntKind.i64.wrap ((n : Int) - 16) = (k : Int) := by rw [show (n : Int) - 16 = (k : Int) by omega]; exact IntWalk.i64_in _ (by omega)
  have t1 : decide ((n : Int) < 24) = false := decide_eq_false (by omega)
  have t2 : decide ((1200 : Int) < (n : Int) - 24) = false := decide_eq_false (by omega)
  have HDL := Lib.hid hdl
  have HKL := Lib.hid hkl
  have s3' : ∀ w', (Instr.slice 35 (.slice Ab n cb) (some (.int .i64 8)) (some (.int .i64 (k : Int))) none).run Try.prog w' = .ok (.slice A3 k8 (cb - 8)) w' := s3
  obtain ⟨gk, hgk⟩ : ∃ f, f = w.heap.size := ⟨_, rfl⟩
  rw [← hgk] at K0 Z0
  have HGK := Lib.hid hgk
  unfold nonceV at HOF
  clear hgk Z1 s3 hb h h2 hk hkl hdl hhd htg hw hwd hX hk8 hTX htm hn r1 r2 r3 hc hm hcb hcm
  by_cases he : tg = tm
  · rw [if_pos he] at HOP
    rw [HOP.out]
    have hst : ((str tm).toList == (str tg).toList) = true := by rw [he]; simp
    have hst2 : str tm = str tg := by rw [he]
    unfold nonceV
    clear he HOP
    go_enter Try.func18, Try.ntmps18
    go_upto_region 4 with (fail)
    rw [← HGK.out]
    go_cut [33] (fun s33 wx => s33 = .bool false ∧ Blk wx gk (byts (code ++ mark)).toArray 34 ∧ Blk wx (gk + 1) #[.bool false, .int .u64 0] 24 ∧ Fr0 w wx)
    case first =>
      have FA := Lib.hid (Fr0.drew F0.out)
      have KA := Lib.hid (Blk.drew K0.out)
      have ZA := Lib.hid (Blk.drew Z0.out)
      rw [HGK.out] at KA ZA ⊢
      obtain ⟨wx, hwx⟩ : ∃ W, W = ((w.alloc (.cells (byts (code ++ mark)).toArray 34)).alloc (.cells #[.bool false, .int .u64 0] 24)) := ⟨_, rfl⟩
      rw [← hwx] at FA KA ZA ⊢
      rw [← HGK.out] at KA ZA ⊢
      have UF := Lib.hid (Fr0.refl wx.drew)
      clear K0 Z0 F0 hwx
      refine wp_region_held_drew (S := (fun W => Fr0 wx.drew W)) (by kernel_rfl) UF.out (fun hHeld => ?_)
      generalize wx.drew = wa at *
      have _hI : True := trivial
      clear _hI
      refine takeH (i := 0) rfl (by kernel_rfl) (by kernel_rfl) (by kernel_rfl) (fun _ _ _ h => h) (yields_load_blk rfl 34 _ rfl gk rfl 34 (byts (code ++ mark)).toArray (fun W hW => (KA.out).fr0 hW) _ Try.underlying34 rfl HCK.out) UF.out ?_
      try simp only [Act.put, List.setIfInBounds_toArray, List.set_cons_zero, List.set_cons_succ]
      have _hI : True := trivial
      clear _hI
      refine takeH (i := 1) rfl (by kernel_rfl) (by kernel_rfl) (by kernel_rfl) (fun _ _ _ h => h) (v := .slice Ab n cb) (.inl ⟨rfl, fun W hW => (by go_simp; try rfl)⟩) UF.out ?_
      try simp only [Act.put, List.setIfInBounds_toArray, List.set_cons_zero, List.set_cons_succ]
      have _hI : True := trivial
      clear _hI
      refine takeH (i := 2) rfl (by kernel_rfl) (by kernel_rfl) (by kernel_rfl) (fun _ _ _ h => h) (v := .int .i64 (k : Int)) (.inl ⟨rfl, fun W hW => (by go_simp; try rfl)⟩) UF.out ?_
      try simp only [Act.put, List.setIfInBounds_toArray, List.set_cons_zero, List.set_cons_succ]
      have _hI : True := trivial
      clear _hI
      refine takeH (i := 3) rfl (by kernel_rfl) (by kernel_rfl) (by kernel_rfl) (fun _ _ _ h => h) (v := .slice Ab k cb) (.inl ⟨rfl, fun W hW => (by go_simp; try rfl)⟩) UF.out ?_
      try simp only [Act.put, List.setIfInBounds_toArray, List.set_cons_zero, List.set_cons_succ]
      have _hI : True := trivial
      clear _hI
      refine takeH (i := 6) rfl (by kernel_rfl) (by kernel_rfl) (by kernel_rfl) (fun _ _ _ h => h) (v := .slice Ab n cb) (.inl ⟨rfl, fun W hW => (by go_simp; try rfl)⟩) UF.out ?_
      try simp only [Act.put, List.setIfInBounds_toArray, List.set_cons_zero, List.set_cons_succ]
      have _hI : True := trivial
      clear _hI
      refine takeH (i := 7) rfl (by kernel_rfl) (by kernel_rfl) (by kernel_rfl) (fun _ _ _ h => h) (v := .int .i64 (k : Int)) (.inl ⟨rfl, fun W hW => (by go_simp; try rfl)⟩) UF.out ?_
      try simp only [Act.put, List.setIfInBounds_toArray, List.set_cons_zero, List.set_cons_succ]
      have _hI : True := trivial
      clear _hI
      refine takeH (i := 8) rfl (by kernel_rfl) (by kernel_rfl) (by kernel_rfl) (fun _ _ _ h => h) (v := .slice A2 16 (cb - k)) (.inl ⟨rfl, fun W hW => (by go_simp; try rfl)⟩) UF.out ?_
      try simp only [Act.put, List.setIfInBounds_toArray, List.set_cons_zero, List.set_cons_succ]
      have _hI : True := trivial
      clear _hI
      refine takeH (i := 9) rfl (by kernel_rfl) (by kernel_rfl) (by kernel_rfl) (fun _ _ _ h => h) (v := .string (str tg)) (.inl ⟨rfl, fun W hW => (by have hcp := conv_ownN HDL.out (RdB.fr0 (RdB.fr0 R2.out FA.out) hW); go_simp; try rfl)⟩) UF.out ?_
      try simp only [Act.put, List.setIfInBounds_toArray, List.set_cons_zero, List.set_cons_succ]
      have _hI : True := trivial
      clear _hI
      refine wpAnyH_ready (rs := [4]) (by kernel_rfl) (by simp) (consG rfl rfl (fun K hK => ?_) AllReadyH.nil)
      have _hI : True := trivial
      clear _hI
      go_simp
      refine (HTG.out _ (Fr0.trans FA.out UF.out)).mono ?_
      rintro e Wn ⟨AT, cT, rfl, hS, hf⟩
      replace UF2 := Lib.hid (Fr0.trans UF.out hf)
      have VT := Lib.hid (hS.rd)
      replace UF := UF2
      clear UF2 hS hf
      refine hK.out _ _ UF.out ?_
      clear hK
      try simp only [Act.put, List.setIfInBounds_toArray, List.set_cons_zero, List.set_cons_succ]
      have _hI : True := trivial
      clear _hI
      refine wpAnyH_ready (rs := [5]) (by kernel_rfl) (by simp) (consG rfl rfl (fun K hK => ?_) AllReadyH.nil)
      have _hI : True := trivial
      clear _hI
      have hcp := conv_ownN HML.out VT.out
      go_simp
      refine hK.out _ _ UF.out ?_
      clear hK
      try simp only [Act.put, List.setIfInBounds_toArray, List.set_cons_zero, List.set_cons_succ]
      have _hI : True := trivial
      clear _hI
      refine takeH (i := 10) rfl (by kernel_rfl) (by kernel_rfl) (by kernel_rfl) (fun _ _ _ h => h) (v := .bool false) (.inl ⟨rfl, fun W hW => (by go_simp; try rfl)⟩) UF.out ?_
      try simp only [Act.put, List.setIfInBounds_toArray, List.set_cons_zero, List.set_cons_succ]
      refine wpAnyH_done (by kernel_rfl) ?_ _
      go_wp2_with fail
      go_meet
      exact ⟨rfl, (KA.out).fr0 UF.out, (ZA.out).fr0 UF.out, Fr0.trans FA.out UF.out⟩
    case rest =>
      obtain ⟨rfl, hK, hZ, hF⟩ := hcut
      have K := Lib.hid hK
      have Z := Lib.hid hZ
      have F := Lib.hid hF
      have R0 := Lib.hid (show RefV wc.heap.size (wc.alloc (.cells #[.slice Ab k cb, .int .i64 0] 61)) wc.heap.size Ab cb hd 0 from ⟨by rw [HKL.out]; exact Blk.new wc _ 61, by rw [HKL.out]; exact (RdB.fr0 R1.out hF).fr0 ((Fr0.refl wc).alloc _), fun h0 g hg => Rd.blk_lt (RdB.fr0 R1.out hF) h0 g (by rw [HKL.out] at hg; exact hg), Nat.le_refl _⟩)
      clear hK hZ hF K0 Z0 F0
      go_upto_region 8 with (go_at_call 31; refine (HRF.out _ _ _ R0.out).mono ?_; rintro e w10 ⟨rfl, hf, -⟩; have F10 := Lib.hid (Fr0.new ((F.out).alloc (.cells #[.slice Ab k cb, .int .i64 0] 61)) hf (F.out).size); have K10 := Lib.hid (((K.out).alloc (.cells #[.slice Ab k cb, .int .i64 0] 61)).fr1 hf (by have := (K.out).lt; omega)); have Z10 := Lib.hid (((Z.out).alloc (.cells #[.slice Ab k cb, .int .i64 0] 61)).fr1 hf (by have := (Z.out).lt; omega)); clear hf)
      have FA := Lib.hid (Fr0.drew F10.out)
      have KA := Lib.hid (Blk.drew K10.out)
      have ZA := Lib.hid (Blk.drew Z10.out)
      clear F10 K10 Z10 F K Z R0
      rw [← HCD.out] at HTN
      refine wp_region_held_drew (S := (fun W => Blk W gk (byts (code ++ mark)).toArray 34)) (by kernel_rfl) KA.out (fun hHeld => ?_)
      generalize w10.drew = wa at *
      have _hI : True := trivial
      clear _hI
      refine takeH (i := 0) rfl (by kernel_rfl) (by kernel_rfl) (by kernel_rfl) (fun _ _ _ h => h) (v := .int .u64 (wd : Int)) (.inl ⟨rfl, fun W hW => (by go_simp; try rfl)⟩) KA.out ?_
      try simp only [Act.put, List.setIfInBounds_toArray, List.set_cons_zero, List.set_cons_succ]
      have _hI : True := trivial
      clear _hI
      refine takeH (i := 2) rfl (by kernel_rfl) (by kernel_rfl) (by kernel_rfl) (fun _ _ _ h => h) (v := .pointer (some ⟨gk, 0, none⟩)) (.inl ⟨rfl, fun W hW => (by go_simp; try rfl)⟩) KA.out ?_
      try simp only [Act.put, List.setIfInBounds_toArray, List.set_cons_zero, List.set_cons_succ]
      have _hI : True := trivial
      clear _hI
      refine takeH (i := 3) rfl (by kernel_rfl) (by kernel_rfl) (by kernel_rfl) (fun _ _ _ h => h) (yields_load_part rfl 31 _ rfl gk 0 rfl 34 (code ++ mark) 16 (fun W hW => hW) _ Try.underlying31 rfl HPI.out) KA.out ?_
      try simp only [Act.put, List.setIfInBounds_toArray, List.set_cons_zero, List.set_cons_succ]
      have _hI : True := trivial
      clear _hI
      refine takeH (i := 4) rfl (by kernel_rfl) (by kernel_rfl) (by kernel_rfl) (fun _ _ _ h => h) (v := .int .u64 (wd : Int)) (.inl ⟨rfl, fun W hW => (by go_simp; try rfl)⟩) KA.out ?_
      try simp only [Act.put, List.setIfInBounds_toArray, List.set_cons_zero, List.set_cons_succ]
      have _hI : True := trivial
      clear _hI
      refine takeH (i := 5) rfl (by kernel_rfl) (by kernel_rfl) (by kernel_rfl) (fun _ _ _ h => h) (v := .slice Ab n cb) (.inl ⟨rfl, fun W hW => (by go_simp; try rfl)⟩) KA.out ?_
      try simp only [Act.put, List.setIfInBounds_toArray, List.set_cons_zero, List.set_cons_succ]
      have _hI : True := trivial
      clear _hI
      refine takeH (i := 6) rfl (by kernel_rfl) (by kernel_rfl) (by kernel_rfl) (fun _ _ _ h => h) (v := .int .i64 (k : Int)) (.inl ⟨rfl, fun W hW => (by go_simp; try rfl)⟩) KA.out ?_
      try simp only [Act.put, List.setIfInBounds_toArray, List.set_cons_zero, List.set_cons_succ]
      have _hI : True := trivial
      clear _hI
      refine takeH (i := 7) rfl (by kernel_rfl) (by kernel_rfl) (by kernel_rfl) (fun _ _ _ h => h) (v := .slice A3 k8 (cb - 8)) (.inl ⟨rfl, fun W hW => (by go_simp; try rfl)⟩) KA.out ?_
      try simp only [Act.put, List.setIfInBounds_toArray, List.set_cons_zero, List.set_cons_succ]
      have _hI : True := trivial
      clear _hI
      refine wpAnyH_ready (rs := [1]) (by kernel_rfl) (by simp) (consG rfl rfl (fun K hK => ?_) AllReadyH.nil)
      have _hI : True := trivial
      clear _hI
      go_simp
      refine (HOF.out _).mono ?_
      rintro e Wn ⟨rfl, hf⟩
      replace KA := Lib.hid ((KA.out).fr0 hf)
      replace ZA := Lib.hid ((ZA.out).fr0 hf)
      replace FA := Lib.hid (Fr0.trans FA.out hf)
      clear hf
      refine hK.out _ _ KA.out ?_
      clear hK
      try simp only [Act.put, List.setIfInBounds_toArray, List.set_cons_zero, List.set_cons_succ]
      have _hI : True := trivial
      clear _hI
      refine wpAnyH_ready (rs := [8]) (by kernel_rfl) (by simp) (consG rfl rfl (fun K hK => ?_) AllReadyH.nil)
      have _hI : True := trivial
      clear _hI
      go_simp
      refine (HTN.out _ FA.out).mono ?_
      rintro e Wn ⟨At, ct, rfl, hb, hf⟩
      have TB := Lib.hid (hb.low (FA.out).size)
      replace KA := Lib.hid ((KA.out).fr0 hf)
      replace FA := Lib.hid (Fr0.trans FA.out hf)
      replace ZA := Lib.hid ((ZA.out).fr0 hf)
      clear hb hf
      refine hK.out _ _ KA.out ?_
      clear hK
      try simp only [Act.put, List.setIfInBounds_toArray, List.set_cons_zero, List.set_cons_succ]
      have _hI : True := trivial
      clear _hI
      refine wpAnyH_ready (rs := [9]) (by kernel_rfl) (by simp) (consG rfl rfl (fun K hK => ?_) AllReadyH.nil)
      have _hI : True := trivial
      clear _hI
      refine wp_store_blk 24 _ _ rfl (gk + 1) #[.bool (ofD wd), .int .u64 (ofN wd : Int)] rfl rfl 24 #[.bool false, .int .u64 0] ZA.out (by kernel_rfl) rfl (by simp [Value.oneCell']) ?_
      intro Wn hB hF
      have ZO := Lib.hid ZA.out
      have KL := (ZA.out).lt
      replace KA := Lib.hid ((KA.out).fr1 hF (by omega))
      replace FA := Lib.hid (Fr0.new FA.out hF (by rw [← HGK.out]; exact Nat.le_succ _))
      have ZB := Lib.hid hB
      replace TB := Lib.hid ((TB.out).fr1 hF ZO.out (by decide))
      clear hB hF KL
      refine hK.out _ _ KA.out ?_
      clear hK
      try simp only [Act.put, List.setIfInBounds_toArray, List.set_cons_zero, List.set_cons_succ]
      have _hI : True := trivial
      clear _hI
      refine takeH (i := 10) rfl (by kernel_rfl) (by kernel_rfl) (by kernel_rfl) (fun _ _ _ h => h) (v := .slice At k8 ct) (.inl ⟨rfl, fun W hW => (by go_simp; try rfl)⟩) KA.out ?_
      try simp only [Act.put, List.setIfInBounds_toArray, List.set_cons_zero, List.set_cons_succ]
      have _hI : True := trivial
      clear _hI
      refine takeH (i := 11) rfl (by kernel_rfl) (by kernel_rfl) (by kernel_rfl) (fun _ _ _ h => h) (v := .int .i64 0) (.inl ⟨rfl, fun W hW => (by go_simp; try rfl)⟩) KA.out ?_
      try simp only [Act.put, List.setIfInBounds_toArray, List.set_cons_zero, List.set_cons_succ]
      refine wpAnyH_done (by kernel_rfl) ?_ _
      go_wp2_with fail
      exact bodyPost_ret (v := .tuple #[.agg #[.bool (ofD wd), .int .u64 (ofN wd : Int)], .slice At k8 ct, .int .i64 0]) (ropen_ret ZB.out rfl rfl rfl rfl) rfl ⟨_, rfl, TB.out, FA.out⟩
  · rw [if_neg he] at HOP
    rw [HOP.out]
    have hst : ((str tm).toList == (str tg).toList) = false := by rw [ByteArray.toList_eq, ByteArray.toList_eq, str_toList, str_toList]; exact beq_eq_false_iff_ne.2 (fun e => he e.symm)
    have hst2 : ¬ str tm = str tg := fun e => he (str_inj e).symm
    unfold nonceV
    clear he HOP HRF HTN HOF
    go_enter Try.func18, Try.ntmps18
    go_upto_region 4 with (fail)
    rw [← HGK.out]
    go_cut [33] (fun s33 wx => s33 = .bool true ∧ Blk wx gk (byts (code ++ mark)).toArray 34 ∧ Blk wx (gk + 1) #[.bool false, .int .u64 0] 24 ∧ Fr0 w wx)
    case first =>
      have FA := Lib.hid (Fr0.drew F0.out)
      have KA := Lib.hid (Blk.drew K0.out)
      have ZA := Lib.hid (Blk.drew Z0.out)
      rw [HGK.out] at KA ZA ⊢
      obtain ⟨wx, hwx⟩ : ∃ W, W = ((w.alloc (.cells (byts (code ++ mark)).toArray 34)).alloc (.cells #[.bool false, .int .u64 0] 24)) := ⟨_, rfl⟩
      rw [← hwx] at FA KA ZA ⊢
      rw [← HGK.out] at KA ZA ⊢
      have UF := Lib.hid (Fr0.refl wx.drew)
      clear K0 Z0 F0 hwx
      refine wp_region_held_drew (S := (fun W => Fr0 wx.drew W)) (by kernel_rfl) UF.out (fun hHeld => ?_)
      generalize wx.drew = wa at *
      have _hI : True := trivial
      clear _hI
      refine takeH (i := 0) rfl (by kernel_rfl) (by kernel_rfl) (by kernel_rfl) (fun _ _ _ h => h) (yields_load_blk rfl 34 _ rfl gk rfl 34 (byts (code ++ mark)).toArray (fun W hW => (KA.out).fr0 hW) _ Try.underlying34 rfl HCK.out) UF.out ?_
      try simp only [Act.put, List.setIfInBounds_toArray, List.set_cons_zero, List.set_cons_succ]
      have _hI : True := trivial
      clear _hI
      refine takeH (i := 1) rfl (by kernel_rfl) (by kernel_rfl) (by kernel_rfl) (fun _ _ _ h => h) (v := .slice Ab n cb) (.inl ⟨rfl, fun W hW => (by go_simp; try rfl)⟩) UF.out ?_
      try simp only [Act.put, List.setIfInBounds_toArray, List.set_cons_zero, List.set_cons_succ]
      have _hI : True := trivial
      clear _hI
      refine takeH (i := 2) rfl (by kernel_rfl) (by kernel_rfl) (by kernel_rfl) (fun _ _ _ h => h) (v := .int .i64 (k : Int)) (.inl ⟨rfl, fun W hW => (by go_simp; try rfl)⟩) UF.out ?_
      try simp only [Act.put, List.setIfInBounds_toArray, List.set_cons_zero, List.set_cons_succ]
      have _hI : True := trivial
      clear _hI
      refine takeH (i := 3) rfl (by kernel_rfl) (by kernel_rfl) (by kernel_rfl) (fun _ _ _ h => h) (v := .slice Ab k cb) (.inl ⟨rfl, fun W hW => (by go_simp; try rfl)⟩) UF.out ?_
      try simp only [Act.put, List.setIfInBounds_toArray, List.set_cons_zero, List.set_cons_succ]
      have _hI : True := trivial
      clear _hI
      refine takeH (i := 6) rfl (by kernel_rfl) (by kernel_rfl) (by kernel_rfl) (fun _ _ _ h => h) (v := .slice Ab n cb) (.inl ⟨rfl, fun W hW => (by go_simp; try rfl)⟩) UF.out ?_
      try simp only [Act.put, List.setIfInBounds_toArray, List.set_cons_zero, List.set_cons_succ]
      have _hI : True := trivial
      clear _hI
      refine takeH (i := 7) rfl (by kernel_rfl) (by kernel_rfl) (by kernel_rfl) (fun _ _ _ h => h) (v := .int .i64 (k : Int)) (.inl ⟨rfl, fun W hW => (by go_simp; try rfl)⟩) UF.out ?_
      try simp only [Act.put, List.setIfInBounds_toArray, List.set_cons_zero, List.set_cons_succ]
      have _hI : True := trivial
      clear _hI
      refine takeH (i := 8) rfl (by kernel_rfl) (by kernel_rfl) (by kernel_rfl) (fun _ _ _ h => h) (v := .slice A2 16 (cb - k)) (.inl ⟨rfl, fun W hW => (by go_simp; try rfl)⟩) UF.out ?_
      try simp only [Act.put, List.setIfInBounds_toArray, List.set_cons_zero, List.set_cons_succ]
      have _hI : True := trivial
      clear _hI
      refine takeH (i := 9) rfl (by kernel_rfl) (by kernel_rfl) (by kernel_rfl) (fun _ _ _ h => h) (v := .string (str tg)) (.inl ⟨rfl, fun W hW => (by have hcp := conv_ownN HDL.out (RdB.fr0 (RdB.fr0 R2.out FA.out) hW); go_simp; try rfl)⟩) UF.out ?_
      try simp only [Act.put, List.setIfInBounds_toArray, List.set_cons_zero, List.set_cons_succ]
      have _hI : True := trivial
      clear _hI
      refine wpAnyH_ready (rs := [4]) (by kernel_rfl) (by simp) (consG rfl rfl (fun K hK => ?_) AllReadyH.nil)
      have _hI : True := trivial
      clear _hI
      go_simp
      refine (HTG.out _ (Fr0.trans FA.out UF.out)).mono ?_
      rintro e Wn ⟨AT, cT, rfl, hS, hf⟩
      replace UF2 := Lib.hid (Fr0.trans UF.out hf)
      have VT := Lib.hid (hS.rd)
      replace UF := UF2
      clear UF2 hS hf
      refine hK.out _ _ UF.out ?_
      clear hK
      try simp only [Act.put, List.setIfInBounds_toArray, List.set_cons_zero, List.set_cons_succ]
      have _hI : True := trivial
      clear _hI
      refine wpAnyH_ready (rs := [5]) (by kernel_rfl) (by simp) (consG rfl rfl (fun K hK => ?_) AllReadyH.nil)
      have _hI : True := trivial
      clear _hI
      have hcp := conv_ownN HML.out VT.out
      go_simp
      refine hK.out _ _ UF.out ?_
      clear hK
      try simp only [Act.put, List.setIfInBounds_toArray, List.set_cons_zero, List.set_cons_succ]
      have _hI : True := trivial
      clear _hI
      refine takeH (i := 10) rfl (by kernel_rfl) (by kernel_rfl) (by kernel_rfl) (fun _ _ _ h => h) (v := .bool true) (.inl ⟨rfl, fun W hW => (by go_simp; try rfl)⟩) UF.out ?_
      try simp only [Act.put, List.setIfInBounds_toArray, List.set_cons_zero, List.set_cons_succ]
      refine wpAnyH_done (by kernel_rfl) ?_ _
      go_wp2_with fail
      go_meet
      exact ⟨rfl, (KA.out).fr0 UF.out, (ZA.out).fr0 UF.out, Fr0.trans FA.out UF.out⟩
    case rest =>
      obtain ⟨rfl, hK, hZ, hF⟩ := hcut
      have z0 := hZ.cell 0 rfl
      have z1 := hZ.cell 1 rfl
      have y0 := hZ.free 0
      have y1 := hZ.free 1
      have ZR := Lib.hid ((hZ.set 0 (.bool false)).set 1 (.int .u64 0))
      have FR := Lib.hid (Fr0.new hF (((Fr1.refl (gk + 1) wc).set 0 (.bool false)).set 1 (.int .u64 0)) (by rw [← HGK.out]; exact Nat.le_succ _))
      clear hK hZ hF K0 Z0 F0
      go_wp2_with fail
      exact bodyPost_ret (v := .tuple #[.agg #[.bool false, .int .u64 0], .slice none 0 0, .int .i64 60]) (ropen_ret ZR.out rfl rfl rfl rfl) rfl ⟨_, rfl, SlO.nil _ _, FR.out⟩
end Go.Proofs.Ytpmindbipclphaa
set_option linter.unusedSimpArgs false
set_option linter.unusedVariables false
namespace Go.Proofs.Ytpmindbipclphaa
open Go.RowKit

theorem wdL_take {b : List UInt8} {k : Nat} (h8 : 8 ≤ k) (hk : k ≤ b.length) : wdL (b.take k) = wdL b := by
  have h1 : fStep (b.take k) 8 = (8, 0) := by
    unfold fStep
    rw [if_neg (by rw [List.length_take]; omega)]
    rfl
  have h2 : fStep b 8 = (8, 0) := by
    unfold fStep
    rw [if_neg (by omega)]
    rfl
  unfold wdL rFixed
  rw [h1, h2]
  simp only [ne_eq, not_true_eq_false, if_false]
  show fixVal ((b.take k).take 8) = fixVal (b.take 8)
  rw [List.take_take, Nat.min_eq_left h8]
/-- What Peek answers. -/
def peekP (b : List UInt8) : (Bool × Nat) × Int := if b.length < 24 ∨ 1224 < b.length then ((false, 0), 4) else ((ofD (wdL b), ofN (wdL b)), 0)
theorem open_all {code mark b : List UInt8} {v : Value} {w : World} (hc : code.length = 16) (hm : mark.length = 32) (hb : RdB w v b) :
    Calls Try.prog 16 #[.agg (byts (code ++ mark)).toArray, v] w fun e w' => ∃ A c, e = .returned (.tuple #[nonceV (openP code mark b).1.1 (openP code mark b).1.2, .slice A (openP code mark b).2.1.length c, .int .i64 (openP code mark b).2.2]) ∧ SlO w.heap.size w' (.slice A (openP code mark b).2.1.length c) (openP code mark b).2.1 ∧ Fr0 w w' := by
  by_cases h : b.length < 24 ∨ 1224 < b.length
  · refine (open_bad hb h).mono ?_
    rintro e w' ⟨rfl, hf⟩
    rw [show openP code mark b = ((false, 0), [], 4) from if_pos h]
    exact ⟨none, 0, rfl, SlO.nil _ _, hf⟩
  · refine (open_good hc hm hb (by omega) (by omega)).mono ?_
    rintro e w' ⟨v2, rfl, hr, hf⟩
    obtain ⟨A, c, rfl, -, -, -⟩ := hr.form
    exact ⟨A, c, rfl, hr, hf⟩
theorem ropen_all {code mark b : List UInt8} {v : Value} {w : World} (hc : code.length = 16) (hm : mark.length = 32) (hb : RdB w v b) :
    Calls Try.prog 18 #[.agg (byts (code ++ mark)).toArray, v] w fun e w' => ∃ A c, e = .returned (.tuple #[nonceV (openP code mark b).1.1 (openP code mark b).1.2, .slice A (openP code mark b).2.1.length c, .int .i64 (openP code mark b).2.2]) ∧ SlO w.heap.size w' (.slice A (openP code mark b).2.1.length c) (openP code mark b).2.1 ∧ Fr0 w w' := by
  by_cases h : b.length < 24 ∨ 1224 < b.length
  · refine (ropen_bad hb h).mono ?_
    rintro e w' ⟨rfl, hf⟩
    rw [show openP code mark b = ((false, 0), [], 4) from if_pos h]
    exact ⟨none, 0, rfl, SlO.nil _ _, hf⟩
  · refine (ropen_good hc hm hb (by omega) (by omega)).mono ?_
    rintro e w' ⟨v2, rfl, hr, hf⟩
    obtain ⟨A, c, rfl, -, -, -⟩ := hr.form
    exact ⟨A, c, rfl, hr, hf⟩
theorem peek_all {b : List UInt8} {v : Value} {w : World} (hb : RdB w v b) :
    Calls Try.prog 19 #[v] w fun e w' => e = .returned (.tuple #[nonceV (peekP b).1.1 (peekP b).1.2, .int .i64 (peekP b).2]) ∧ Fr0 w w' := by
  by_cases h : b.length < 24 ∨ 1224 < b.length
  · rw [show peekP b = ((false, 0), 4) from if_pos h]
    exact peek_bad hb h
  · have h2 := peek_good hb (by omega) (by omega)
    rw [wdL_take (by omega) (by omega)] at h2
    rw [show peekP b = ((ofD (wdL b), ofN (wdL b)), 0) from if_neg h]
    exact h2
theorem rpeek_all {b : List UInt8} {v : Value} {w : World} (hb : RdB w v b) :
    Calls Try.prog 20 #[v] w fun e w' => e = .returned (.tuple #[nonceV (peekP b).1.1 (peekP b).1.2, .int .i64 (peekP b).2]) ∧ Fr0 w w' := by
  by_cases h : b.length < 24 ∨ 1224 < b.length
  · rw [show peekP b = ((false, 0), 4) from if_pos h]
    exact rpeek_bad hb h
  · rw [show peekP b = ((ofD (wdL b), ofN (wdL b)), 0) from if_neg h]
    exact rpeek_good hb (by omega) (by omega)
end Go.Proofs.Ytpmindbipclphaa
namespace Go.Proofs.Ytpmindbipclphaa
open Go.RowKit

/-- append onto such a slice; what was read there is read still. -/
theorem run_append_sl_keep {base : Nat} {w : World} {v : Value} {d : List UInt8} (h : SlO base w v d) (hb : base ≤ w.heap.size) {v2 : Value} {e : List UInt8} (hr : RdB w v2 e) (hl : d.length + e.length ≤ 1000000) (ty : TypeId) :
    ∃ A c w', (Builtin.append_ #[35, 35] ty #[v, v2]).run Try.prog w = .ok (.slice A (d.length + e.length) c) w' ∧ SlO base w' (.slice A (d ++ e).length c) (d ++ e) ∧ Fr (inBlk v) w w' ∧ (∀ k, inBlk (.slice A (d ++ e).length c) k → inBlk v k ∨ w.heap.size ≤ k) ∧ SlO base w' v d := by
  have h0 := h
  obtain ⟨i, hi, hz0, hz1, hz2⟩ := info_parts infoB
  have ht := Try.underlying35
  obtain ⟨A2, c2, rfl, hnc, hcm, hnone⟩ := hr.form
  have hlen : (d ++ e).length = d.length + e.length := List.length_append
  have grown : ∀ (A : Option Addr) (c : Nat) (w1 : World) (n : Nat), n = d.length + e.length → w1.ownsRow w.heap.size 5 1 (.slice A n c) n (byts d ++ byts e) → SlO base w1 (.slice A (d ++ e).length c) (d ++ e) ∧ ∀ k, inBlk (.slice A (d ++ e).length c) k → inBlk v k ∨ w.heap.size ≤ k := by
    intro A c w1 n hn hown
    subst hn
    rw [← byts_app, ← hlen] at hown
    have h1 := SlO.of_own hown
    refine ⟨?_, fun k hk => .inr (h1.lo k hk).1⟩
    rcases h1 with h1 | ⟨g, off, c', cur, hv, hg, rest⟩
    · exact .inl h1
    · exact .inr ⟨g, off, c', cur, hv, by omega, rest⟩
  cases A2 with
  | none =>
    have hc2 : c2 = 0 := hnone rfl
    subst hc2
    have he : e = [] := List.eq_nil_of_length_eq_zero (by omega)
    subst he
    rcases h with ⟨rfl, rfl⟩ | ⟨g, off, c, cur, rfl, hbg, hg, h1, h2, h3, h4⟩
    · refine ⟨none, 0, w, ?_, SlO.nil _ _, Fr.refl _ _, (fun k hk => by cases hk), h0⟩
      simp [Builtin.append_, run_underlying ht, sizeOf, typeInfo, hi, Builtin.lenOf, Builtin.firstCells]
    · have hrun := run_append_room_src (P := Try.prog) w 35 35 ty 5 i ht hi g off d.length c (.slice none 0 0) 0 [] (Src.ofNil (P := Try.prog) w ht 0) (by omega) (fun j hj => by simp at hj) (fun j hj => by simp at hj)
      refine ⟨some ⟨g, off, none⟩, c, w, by simpa [World.setCells] using hrun, ?_, Fr.refl _ _, fun k hk => .inl hk, h0⟩
      rw [List.append_nil]
      exact .inr ⟨g, off, c, cur, rfl, hbg, hg, h1, h2, h3, h4⟩
  | some ad =>
    have news : ∀ j u, (byts e)[j]? = some u → w.cell? (ad.add j) = some u := fun j u hu => Rd.news hr j u hu
    have nl : (byts e).length = e.length * 1 := byts_len e
    rcases h with ⟨rfl, rfl⟩ | ⟨g, off, c, cur, rfl, hbg, hg, h1, h2, h3, h4⟩
    · obtain ⟨v', w', hrun, hown, hgrow, -⟩ := run_append_own (P := Try.prog) w w.heap.size 35 ty 5 i _ 1 1 ht hi hz0 hz1 hz2 rfl (by decide) (.slice none 0 0) 0 [] ⟨rfl, .inl ⟨rfl, rfl⟩⟩ ad e.length c2 (byts e) nl news (byts_one e) (by unfold maxLen; simp at hl; omega) (by simp at hl; omega) (Nat.le_refl _)
      obtain ⟨A', c', rfl, -⟩ := own_form hown
      obtain ⟨g1, g2⟩ := grown A' c' w' _ (by simp) hown
      refine ⟨A', c', w', by simpa using hrun, g1, Fr.grown (Fr.refl _ _) hgrow (fun k hk => by cases hk), g2, h0.fr0 (Fr.grown (Fr.refl _ _) hgrow (fun k hk => by cases hk))⟩
    · by_cases hroom : d.length + e.length ≤ c
      · have hrun := run_append_room_src (P := Try.prog) w 35 35 ty 5 i ht hi g off d.length c (.slice (some ad) e.length c2) e.length (byts e) (Src.ofSlice (P := Try.prog) w ht ad e.length c2 (byts e) (by rw [hz1]; exact nl) news (byts_one e)) hroom
          (fun j hj => by rw [hz1, hg.cell _ (Array.getElem?_eq_getElem (by rw [nl] at hj; omega))]; rfl) (fun j hj => hg.free _)
        rw [hz1] at hrun
        refine ⟨some ⟨g, off, none⟩, c, w.setCells g (off + d.length * 1) (byts e), hrun, ?_, Fr.mono (Fr1.setCells (byts e) _ (Fr1.refl g w)) (fun k hk => by rw [hk]; rfl), fun k hk => .inl hk, .inr ⟨g, off, c, _, rfl, hbg, hg.setCells (byts e) _, by rw [putAt_size]; exact h1, h2, h3, fun j u hu => ?_⟩⟩
        rotate_left
        · have hj : j < d.length := by
            rcases Nat.lt_or_ge j d.length with h | h
            · exact h
            · rw [List.getElem?_eq_none (by rw [byts_len]; omega)] at hu; cases hu
          rw [putAt_out _ _ _ _ (.inl (by omega))]
          exact h4 j u hu
        refine .inr ⟨g, off, c, _, rfl, hbg, hg.setCells (byts e) _, by rw [putAt_size]; exact h1, by rw [hlen]; exact hroom, h3, fun j u hu => ?_⟩
        rw [byts_app] at hu
        by_cases hj : j < d.length
        · rw [List.getElem?_append_left (by rw [byts_len]; omega)] at hu
          rw [putAt_out _ _ _ _ (.inl (by omega))]
          exact h4 j u hu
        · rw [List.getElem?_append_right (by rw [byts_len]; omega), byts_len] at hu
          have hj2 : j - d.length * 1 < (byts e).length := by
            rcases Nat.lt_or_ge (j - d.length * 1) (byts e).length with h | h
            · exact h
            · rw [List.getElem?_eq_none h] at hu; cases hu
          have := putAt_in (byts e) cur (off + d.length * 1) (j - d.length * 1) hj2 (by rw [nl]; omega)
          rw [show off + d.length * 1 + (j - d.length * 1) = off + j by omega] at this
          rw [this, hu]
      · obtain ⟨v', w', hrun, hown, hgrow⟩ := run_append_arg_grows (P := Try.prog) w 35 ty 5 i _ 1 1 ht hi hz0 hz1 hz2 rfl (by decide) ⟨g, off, none⟩ d.length c (byts d) (byts_len d)
          (fun j u hu => by rw [show (⟨g, off, none⟩ : Addr).add j = ⟨g, off + j, none⟩ from Addr.add_mid g off j]; exact hg.cell _ (h4 j u hu)) ad e.length c2 (byts e) nl news (by omega) (by unfold maxLen; omega) (by omega)
        obtain ⟨A', c', rfl, -⟩ := own_form hown
        obtain ⟨g1, g2⟩ := grown A' c' w' _ rfl hown
        exact ⟨A', c', w', hrun, g1, Fr.grown (Fr.refl _ _) hgrow (fun k hk => by cases hk), g2, h0.fr0 (Fr.grown (Fr.refl _ _) hgrow (fun k hk => by cases hk))⟩
theorem wp_append_sl_keep {o : Oper} {w : World} {K : Act → World → Prop} {a : Act} {Q : Exit → Act → World → Prop} {base : Nat} {v v2 : Value} {d e : List UInt8} (s x : Operand) (ho : o.op = .call { callee := .builtin .append, args := #[s, x], argTypes := #[35, 35] })
    (h : SlO base w v d) (hs : a.eval s = v) (hb : base ≤ w.heap.size) (hr : RdB w v2 e) (hx : a.eval x = v2) (hl : d.length + e.length ≤ 1000000)
    (hK : ∀ A c w', SlO base w' (.slice A (d ++ e).length c) (d ++ e) → Fr (inBlk v) w w' → SlO base w' v d → K (a.put o.dst (.slice A (d.length + e.length) c)) w') :
    Oper.wp Try.prog o a w K Q := by
  obtain ⟨A, c, w', hrun, h1, h2, -, h4⟩ := run_append_sl_keep h hb hr hl o.type
  unfold Oper.wp execOp
  simp only [ho, resolve, invoke, builtin, Sem.run_bind, Sem.run_pure, Result.andThen_ok, List.map_toArray, List.map_cons, List.map_nil, hs, hx, hrun]
  exact hK A c w' h1 h2 h4
end Go.Proofs.Ytpmindbipclphaa
