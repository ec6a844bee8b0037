/- LinkSpent: where no nonce is left nothing is sent any more, and what comes is heard still: the law returns true for any key and number. No condition. -/
import Derived.Test.YtgcjbbliaelkcaaLkJ2
import Derived.Test.YtgcjbbliaelkcaaWLits
set_option linter.unusedSimpArgs false
set_option linter.unusedVariables false
namespace Go.Proofs.Ytgcjbbliaelkcaa
open Go.RowKit

theorem sent_new (key : List UInt8) (d : Bool) (n : Nat) (a : Int) : sentLk (newLk key d n a) = newLk key d (n + 1) a := rfl
theorem echo_new (key : List UInt8) (d : Bool) (n : Nat) (a now : Int) : echoV (newLk key d n a) now = 65535 := by unfold echoV newLk; rw [if_pos (.inl ⟨rfl, rfl, rfl⟩)]
theorem hearLk_next (s : Lk) (now frm : Int) (N a a2 : Nat) : (hearLk s now frm N a a2).next = s.next := by unfold hearLk; split <;> rfl
theorem hearLk_made (s : Lk) (now frm : Int) (N a a2 : Nat) : (hearLk s now frm N a a2).made = s.made := by unfold hearLk; split <;> rfl
set_option maxHeartbeats 4000000 in
set_option maxRecDepth 100000 in
theorem linkSpent_any {code mark : List UInt8} {left : Int} {w : World} (hc : code.length = 16) (hm : mark.length = 32) (hl : -9223372036854775808 ≤ left ∧ left ≤ 9223372036854775807) :
    Calls Try.prog 3 #[.agg (byts (code ++ mark)).toArray, .int .i64 left] w fun e w' => e = .returned (.bool true) ∧ Fr0 w w' := by
  have KN := Lib.hid known09_any
  have HK := Lib.hid (show (code ++ mark).length = 48 by rw [List.length_append, hc, hm])
  have FX := Lib.hid ((Fr0.refl w).alloc (.cells (byts (code ++ mark)).toArray 25))
  have BK := Lib.hid (Blk.new w (byts (code ++ mark)).toArray 25)
  have HCK := Lib.hid (show (Try.prog.info? 25).map (·.size) = some (byts (code ++ mark)).toArray.size by rw [show (byts (code ++ mark)).toArray.size = 48 by simp [byts, hc, hm]]; kernel_rfl)
  by_cases h0 : left < 0 ∨ 50 < left
  · obtain ⟨ck, hck⟩ : ∃ c, c = (byts (code ++ mark)).toArray := ⟨_, rfl⟩
    rw [← hck] at FX ⊢
    have q4 : decide (left < 0) = true ∨ decide (left < 0) = false ∧ decide ((50 : Int) < left) = true := by
      by_cases a1 : left < 0
      · exact .inl (decide_eq_true a1)
      · exact .inr ⟨decide_eq_false a1, decide_eq_true (by omega)⟩
    clear h0 hc hm hl hck HK BK HCK
    rcases q4 with q4 | ⟨q4, q5⟩
    all_goals (
      go_enter Try.func3, Try.ntmps3
      go_wp2_with (go_at_call 8; refine (KN.out _).mono ?_; rintro e w1 ⟨rfl, hf⟩; have F1 := Lib.hid (Fr0.trans FX.out hf); clear hf)
      go_ret
      exact ⟨rfl, F1.out⟩)
  obtain ⟨L, rfl⟩ : ∃ L : Nat, left = (L : Int) := ⟨left.toNat, by omega⟩
  have t0 : decide ((L : Int) < 0) = false := decide_eq_false (by omega)
  have t1 : decide ((50 : Int) < (L : Int)) = false := decide_eq_false (by omega)
  have hL : L ≤ 50 := by omega
  obtain ⟨N0, hN0⟩ : ∃ n, n = 9223372036854775808 - L := ⟨_, rfl⟩
  have q1 : IntKind.u64.wrap (L : Int) = (L : Int) := by rw [IntKind.wrap_u64]; omega
  have q2 : IntKind.u64.wrap (9223372036854775808 - (L : Int)) = (N0 : Int) := by rw [IntKind.wrap_u64]; omega
  have q3 : IntKind.i64.wrap ((L : Int) + 3) = (L : Int) + 3 := IntWalk.i64_in _ (by omega)
  have HN1 := Lib.hid (fun W => show Calls Try.prog 9 #[.agg (byts (code ++ mark)).toArray, .bool false, .int .u64 (N0 : Int), .int .i64 1] W (fun e w' => ∃ p, e = .returned (.tuple #[.pointer (some ⟨p, 0, none⟩), .int .i64 0]) ∧ LkV w' p (newLk (code ++ mark) false (N0 + min 0 L) 1) ∧ W.heap.size ≤ p ∧ Fr0 W w') by
    rw [Nat.zero_min, Nat.add_zero]
    exact lnew_good HK.out (by omega) (by decide))
  have HN2 := Lib.hid (fun W => show Calls Try.prog 9 #[.agg (byts (code ++ mark)).toArray, .bool true, .int .u64 4, .int .i64 1] W (fun e w' => ∃ p, e = .returned (.tuple #[.pointer (some ⟨p, 0, none⟩), .int .i64 0]) ∧ LkV w' p (newLk (code ++ mark) true 4 1) ∧ W.heap.size ≤ p ∧ Fr0 W w') from lnew_good (n := 4) HK.out (by decide) (by decide))
  have HSG := Lib.hid (fun W p v (i : Nat) (h : LkV W p (newLk (code ++ mark) false (N0 + min i L) 1)) (hi : i < L) (ht : RdB W v [120]) => show Calls Try.prog 10 #[.pointer (some ⟨p, 0, none⟩), .int .i64 (i : Int), v] W (fun e w' => ∃ A c, e = .returned (.tuple #[.slice A 29 c, .int .i64 0]) ∧ LkV w' p (newLk (code ++ mark) false (N0 + min (i + 1) L) 1) ∧ Fr1 p W w') by
    rw [Nat.min_eq_left (by omega)] at h
    rw [Nat.min_eq_left (by omega)]
    refine (send_pk (text := [120]) h rfl ht rfl hc hm (by omega) (by decide) (show N0 + i < _ by omega) (show (0 : Int) ≤ 0 ∧ (0 : Int) ≤ 65535 by decide) (show (0 : Int) ≤ 0 ∧ (0 : Int) ≤ 1099511627776 by decide)).mono ?_
    rintro e w' ⟨A, c, rfl, -, hL, hf⟩
    exact ⟨A, c, rfl, hL, hf⟩)
  have HSB := Lib.hid (fun W p v (i : Nat) (h : LkV W p (newLk (code ++ mark) false (N0 + min i L) 1)) (hi : ¬ i < L) (hi2 : i ≤ 60) (ht : RdB W v [120]) => show Calls Try.prog 10 #[.pointer (some ⟨p, 0, none⟩), .int .i64 (i : Int), v] W (fun e w' => e = .returned (.tuple #[.slice none 0 0, .int .i64 91]) ∧ LkV w' p (newLk (code ++ mark) false (N0 + min (i + 1) L) 1) ∧ Fr0 W w') by
    rw [Nat.min_eq_right (by omega)] at h
    rw [Nat.min_eq_right (by omega)]
    have he : sendE (newLk (code ++ mark) false (N0 + L) 1) (i : Int) ([120] : List UInt8).length = 91 := by
      unfold sendE
      rw [if_neg (by omega), if_neg (by decide), if_pos (show 9223372036854775808 ≤ (newLk (code ++ mark) false (N0 + L) 1).next from (show 9223372036854775808 ≤ N0 + L by omega))]
    have h2 := send_bad (text := [120]) (now := (i : Int)) h rfl ht (by rw [he]; decide)
    rw [he] at h2
    refine h2.mono ?_
    rintro e w' ⟨rfl, hf⟩
    exact ⟨rfl, h.fr0 hf, hf⟩)
  have HSO := Lib.hid (fun W p v (h : LkV W p (newLk (code ++ mark) true 4 1)) (ht : RdB W v [121]) => show Calls Try.prog 10 #[.pointer (some ⟨p, 0, none⟩), .int .i64 5, v] W (fun e w' => ∃ A c, e = .returned (.tuple #[.slice A 29 c, .int .i64 0]) ∧ OwN w' (.slice A 29 c) 29 (pkL code mark true 4 5 65535 [121]) ∧ LkV w' p (newLk (code ++ mark) true 5 1) ∧ Fr1 p W w') by
    have h2 := send_pk (text := [121]) (now := 5) h rfl ht rfl hc hm (by decide) (by decide) (show 4 < 9223372036854775808 by decide) (show (0 : Int) ≤ 0 ∧ (0 : Int) ≤ 65535 by decide) (show (0 : Int) ≤ 0 ∧ (0 : Int) ≤ 1099511627776 by decide)
    rw [echo_new, show ((5 : Int) % 65535).toNat = 5 from by decide, show (65535 : Int).toNat = 65535 from rfl] at h2
    exact h2)
  have HHE := Lib.hid (fun W p v (i : Nat) (hi : L ≤ i) (h : LkV W p (newLk (code ++ mark) false (N0 + min i L) 1)) (hb : RdB W v (pkL code mark true 4 5 65535 [121])) => show Calls Try.prog 11 #[.pointer (some ⟨p, 0, none⟩), .int .i64 9, .int .i64 0, v] W (fun e w' => ∃ A c s, e = .returned (.tuple #[.slice A 1 c, .bool true, .int .i64 0]) ∧ OwN w' (.slice A 1 c) 1 [121] ∧ LkV w' p s ∧ s.made = true ∧ s.next = 9223372036854775808 ∧ Fr1 p W w') from
    (hear_fresh (text := [121]) (d := true) (n := 4) (x := 5) (y := 65535) h rfl ⟨by decide, by decide⟩ rfl hc hm hb (by decide) (by decide) (by decide) (by decide) (show true ≠ false by decide) (fun hh => absurd (show false = true from hh.1) (by decide)) (show mayM 0 0 0 by unfold mayM; decide)).mono (by
      rintro e w' ⟨A, c, rfl, ho, hL, hf⟩
      exact ⟨A, c, _, rfl, ⟨_, ho⟩, hL, hearLk_made _ _ _ _ _ _, by rw [hearLk_next]; show N0 + min i L = _; rw [Nat.min_eq_right hi]; omega, hf⟩))
  have HNX := Lib.hid (fun W p s (h : LkV W p s) (hm : s.made = true) (hn : s.next = 9223372036854775808) => show Calls Try.prog 12 #[.pointer (some ⟨p, 0, none⟩)] W (fun e w' => e = .returned (.int .u64 9223372036854775808) ∧ Fr0 W w') by
    have h2 := lnext_any h hm
    rw [hn] at h2
    exact h2)
  have hcv := fun (w : World) (C : Array Value) (n c : Nat) => Lib.run_convert_bytes_const (P := Try.prog) w 32 5 C n c Try.underlying32 Try.underlying5
  have qs : ((str [121]).toList == [121]) = true := by rw [ByteArray.toList_eq]; rfl
  obtain ⟨ck, hck⟩ : ∃ c, c = (byts (code ++ mark)).toArray := ⟨_, rfl⟩
  rw [← hck] at BK HCK FX HN1 HN2 ⊢
  obtain ⟨pk, hpk⟩ : ∃ c, c = pkL code mark true 4 5 65535 [121] := ⟨_, rfl⟩
  rw [← hpk] at HSO HHE
  obtain ⟨S, hS⟩ : ∃ f : Nat → Lk, f = fun i => newLk (code ++ mark) false (N0 + min i L) 1 := ⟨_, rfl⟩
  have HS0 : ∀ i, newLk (code ++ mark) false (N0 + min i L) 1 = S i := fun i => by rw [hS]
  simp only [HS0] at HN1 HSG HSB HHE
  obtain ⟨t4, ht4⟩ : ∃ s, s = newLk (code ++ mark) true 4 1 := ⟨_, rfl⟩
  obtain ⟨t5, ht5⟩ : ∃ s, s = newLk (code ++ mark) true 5 1 := ⟨_, rfl⟩
  rw [← ht4] at HN2 HSO
  rw [← ht5] at HSO
  have HLL := Lib.hid hL
  clear HS0 hS ht4 ht5 hck hpk hc hm hl h0 hL hN0 HK
  go_enter Try.func3, Try.ntmps3
  go_upto_region 8 with (first
    | (have _q := U1; go_at_call 9; refine (HN2.out _).mono ?_; rintro e w2 ⟨po, rfl, hL, hl, hf⟩; have F2 := Lib.hid (Fr0.trans F1.out hf); have U2 := Lib.hid ((U1.out).fr0 hf); have NE := Lib.hid (show pl ≠ po from by have := (U1.out).lt; omega); have LO := Lib.hid (Nat.le_trans (F1.out).size hl); have O2 := Lib.hid hL; clear hL hl hf)
    | (go_at_call 9; refine (HN1.out _).mono ?_; rintro e w1 ⟨pl, rfl, hL, hl, hf⟩; have F1 := Lib.hid (Fr0.trans FX.out hf); have U1 := Lib.hid hL; have LU := Lib.hid (Nat.le_trans (FX.out).size hl); have K1 := Lib.hid ((BK.out).fr0 hf); clear hL hl hf)
    | (have _q := K1; refine list_load_blk rfl 25 _ rfl w.heap.size rfl 25 ck K1.out _ Try.underlying25 rfl HCK.out ?_)
    | (refine list_load_blk rfl 25 _ rfl w.heap.size rfl 25 ck BK.out _ Try.underlying25 rfl HCK.out ?_))
  go_loopw [9] (fun v9 wr => ∃ i : Nat, i ≤ L + 3 ∧ v9 = .int .i64 (i : Int) ∧ LkV wr pl (S i) ∧ LkV wr po t4 ∧ Fr0 w wr) (fun v9 _ => L + 3 - (intOf v9).toNat)
  case atStart => exact ⟨0, by omega, rfl, U2.out, O2.out, F2.out⟩
  case round =>
    obtain ⟨i, hi, rfl, hU, hO, hF⟩ := hrel
    have U := Lib.hid hU
    have O := Lib.hid hO
    have F := Lib.hid hF
    clear hU hO hF U1 U2 O2 F1 F2 K1
    by_cases hlt : i < L + 3
    · have tl : decide ((i : Int) < (L : Int) + 3) = true := decide_eq_true (by omega)
      have qi : IntKind.i64.wrap ((i : Int) + 1) = ((i + 1 : Nat) : Int) := by rw [show ((i + 1 : Nat) : Int) = (i : Int) + 1 by omega]; exact IntWalk.i64_in _ (by have := HLL.out; omega)
      have HI := Lib.hid hi
      have HLT := Lib.hid hlt
      by_cases hx : i < L
      · have tx : decide ((i : Int) < (L : Int)) = true := decide_eq_true (by omega)
        have tx' : decide (i < L) = true := decide_eq_true hx
        have HX := Lib.hid hx
        clear hi hlt hx
        go_wp2_with (go_at_call 10; refine (HSG.out _ _ _ i ((U.out).fr0 ((Fr0.refl wr).alloc (.cells #[.int .u8 120] 5 (1, 2)))) HX.out (lit_bytes wr 5 [120] (by decide) (1, 2))).mono ?_; rintro e w5 ⟨A5, c5, rfl, hL5, hf⟩; have F5 := Lib.hid (Fr0.new ((F.out).alloc (.cells #[.int .u8 120] 5 (1, 2))) hf LU.out); have U5 := Lib.hid hL5; have O5 := Lib.hid (((O.out).fr0 ((Fr0.refl wr).alloc (.cells #[.int .u8 120] 5 (1, 2)))).fr1 hf (fun e => NE.out e.symm)); clear hL5 hf)
        exact ⟨⟨i + 1, by have := HLT.out; omega, by simp, U5.out, O5.out, F5.out⟩, by have := HLT.out; simp [intOf]; omega⟩
      · have tx : decide ((i : Int) < (L : Int)) = false := decide_eq_false (by omega)
        have tx' : decide (i < L) = false := decide_eq_false hx
        have HX := Lib.hid hx
        clear hi hlt hx
        go_wp2_with (go_at_call 10; refine (HSB.out _ _ _ i ((U.out).fr0 ((Fr0.refl wr).alloc (.cells #[.int .u8 120] 5 (1, 2)))) HX.out (by have := HI.out; have := HLL.out; omega) (lit_bytes wr 5 [120] (by decide) (1, 2))).mono ?_; rintro e w5 ⟨rfl, hL5, hf⟩; have F5 := Lib.hid (Fr0.trans ((F.out).alloc (.cells #[.int .u8 120] 5 (1, 2))) hf); have U5 := Lib.hid hL5; have O5 := Lib.hid (((O.out).fr0 ((Fr0.refl wr).alloc (.cells #[.int .u8 120] 5 (1, 2)))).fr0 hf); clear hL5 hf)
        exact ⟨⟨i + 1, by have := HLT.out; omega, by simp, U5.out, O5.out, F5.out⟩, by have := HLT.out; simp [intOf]; omega⟩
    · have HI := Lib.hid (show L ≤ i by omega)
      have tl : decide ((i : Int) < (L : Int) + 3) = false := decide_eq_false (by omega)
      clear hi hlt
      go_wp2_with (first
        | (have _q := U8; go_at_call 8; refine (KN.out _).mono ?_; rintro e w9 ⟨rfl, hf⟩; have F9 := Lib.hid (Fr0.trans F8.out hf); clear hf)
        | (have _q := F7; go_at_call 12; refine (HNX.out _ _ _ U7.out M7.out N7.out).mono ?_; rintro e w8 ⟨rfl, hf⟩; have F8 := Lib.hid (Fr0.trans F7.out hf); have U8 := Lib.hid trivial; clear hf)
        | (have _q := B6; go_at_call 11; refine (HHE.out _ _ _ i HI.out U6.out (B6.out).rd).mono ?_; rintro e w7 ⟨A7, c7, s7, rfl, ho, hL, hm7, hn7, hf⟩; have F7 := Lib.hid (Fr0.new F6.out hf LU.out); have U7 := Lib.hid hL; have M7 := Lib.hid hm7; have N7 := Lib.hid hn7; have cs1 := conv_ownN (n := 1) rfl ho.rd; clear hL hf ho hm7 hn7)
        | (go_at_call 10; refine (HSO.out _ _ _ ((O.out).fr0 ((Fr0.refl wr).alloc (.cells #[.int .u8 121] 5 (1, 2)))) (lit_bytes wr 5 [121] (by decide) (1, 2))).mono ?_; rintro e w6 ⟨A6, c6, rfl, ho, hL, hf⟩; have F6 := Lib.hid (Fr0.new ((F.out).alloc (.cells #[.int .u8 121] 5 (1, 2))) hf LO.out); have U6 := Lib.hid (((U.out).fr0 ((Fr0.refl wr).alloc (.cells #[.int .u8 121] 5 (1, 2)))).fr1 hf NE.out); have B6 := Lib.hid ho; clear hL hf ho))
      go_ret
      exact ⟨rfl, F9.out⟩
namespace LinkSpent
open Go.ChangeShapes Go.WideShapes Go.ChangeAt
open Go.ChangeMaps (open_string shut_string)

theorem own : ownKnob Try.prog.godebug = none := by kernel_rfl
theorem laidOut : laidOutB Try.prog = true := by kernel_rfl

set_option maxRecDepth 100000 in
theorem lifted (os : Os) (started : os.Started) (H : Type) (enc : TypeId × Value → H) :
    ReturnsInHanded {} Try.checked os 3 .any (Rows.linkSpentSpec.pre6 enc Try.prog Try.f3 Rows.linkSpentRow.domain false) (Rows.linkSpentSpec.post enc Try.prog Try.f3 false true false false) := by
  refine returnsInHanded_of_change (C := Try.checked) own started (by kernel_rfl) Try.func3
    (ChangeSpec.witness6 (enc := enc) (C := Try.checked) false ⟨#[], #[.agg (Array.replicate 48 (.int .u8 0)), .int .i64 0], []⟩ 8 (by kernel_rfl) (by kernel_rfl) (by kernel_rfl) (by kernel_rfl)) ?_
  intro W base args ds gs before hval0 hW hcnd _
  have hval : ∀ (j : Nat) t v, Try.f3.params[j]? = some t → args[j]? = some v → Value.okWide Try.prog W .any base t v := hval0
  have hW' := hW
  obtain ⟨p, q, hA0, hV, rfl, hfz, hnd⟩ := hW
  have hA : DataW.TrodAll enc Try.prog W 0 (fun _ => true) true Try.f3.params.toList args.toList ds p := hA0
  rw [Try.params3] at hA hval
  obtain ⟨v0, vs0, d0', ds0, p0, q0, hargs, rfl, rfl, h0, r0⟩ := trodAll_cons hA
  obtain ⟨v1, vs1, d1', ds1, p1, q1, rfl, rfl, rfl, h1, r1⟩ := trodAll_cons r0
  obtain ⟨rfl, rfl, rfl⟩ := trodAll_nil r1
  obtain rfl : args = #[v0, v1] := by cases args; simp_all
  obtain ⟨rfl, rfl⟩ := trodVars_none hV
  have k0 := h0
  have lt0 : ∀ x ∈ p0, x.block < W.heap.size := by obtain ⟨m, hm⟩ := k0; exact DataW.trod_lt m _ _ _ hm
  obtain ⟨code0, mark0, rfl, hc0, hm0⟩ := arg_key (hval 0 25 v0 rfl rfl) h0
  obtain ⟨n1, rfl, rfl, rfl, hn1⟩ := open_int Try.underlying3 (hval 1 3 v1 rfl rfl) h1
  have hm1 := lit_i64 hn1
  clear hA0 hval0
  refine (linkSpent_any hc0 hm0 hm1).mono fun e W' ⟨he, hfr⟩ => ?_
  have bel : Below W.heap.size W W' := Fr0.below hfr
  subst he
  exact ⟨_, rfl, _, _, _, [], _, [], hW', trodAll_mk1 (shut_bool Try.underlying4 _), (trodAll_cons_mk (Below.trod laidOut (by kernel_rfl) (of_decide_eq_true (by kernel_rfl)) k0 bel lt0) (trodAll_cons_mk (shut_int Try.underlying3 hn1) trodAll_mk0)), rfl, bel.frame _, fun h => by cases h⟩

theorem over : Rows.linkSpentRow.holds Try.pinned (OpenSpec.ofChange Rows.linkSpentSpec) :=
  OpenClaim.holds_of_wide 3 Try.f3 rfl rfl rfl rfl rfl rfl rfl ⟨rfl, rfl, rfl, rfl, rfl⟩ rfl rfl rfl rfl rfl (by kernel_rfl) Try.func3 (by kernel_rfl)
    (of_decide_eq_true (by kernel_rfl)) (by unfold Func.isWrapper; first | (rw [if_pos (by decide +kernel)]; kernel_rfl) | (rw [if_neg (by decide +kernel)]; exact ⟨rfl, rfl⟩))
    (fun os started H enc _ => lifted os started H enc)

theorem proved : Rows.LinkSpentSaid := over
#print axioms proved
end LinkSpent
end Go.Proofs.Ytgcjbbliaelkcaa
