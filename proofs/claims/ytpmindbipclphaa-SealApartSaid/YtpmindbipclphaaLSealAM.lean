/- SealApart: unlike nonces have unlike words and unlike packets: the law returns true for any key, nonces and text. No condition. -/
import Derived.Test.YtpmindbipclphaaLSealWM
import Derived.Test.YtpmindbipclphaaArr
import Derived.ChangeSame
import Derived.Test.YtpmindbipclphaaQuiet
set_option linter.unusedSimpArgs false
set_option linter.unusedVariables false
set_option linter.constructorNameAsVariable false
namespace Go.Proofs.Ytpmindbipclphaa
open Go.RowKit Go.ChangeShapes Go.WideShapes Go.ChangeAt

section
variable {H : Type} {enc : TypeId × Value → H} {w : World} {base : Nat} {spare : Nat → Bool} {held : Bool}
set_option maxRecDepth 100000 in
theorem arr_bytes {t : TypeId} {n fuel : Nat} {cs : List Value} {x : DataW H × List MemPlace} (ht : Try.prog.underlying t = some (.array n 5)) (hn : Try.prog.cellsOf t = n) (h : DataW.trod enc Try.prog w base spare held fuel t cs = some x) : ∃ d : List UInt8, cs = byts d ∧ d.length = n := by
  obtain ⟨zs, h1, h2, h3⟩ := arr_ints ht Try.underlying5 (by kernel_rfl) hn h
  obtain ⟨d, hd, hl⟩ := bytes_of_ints h3
  refine ⟨d, ?_, by rw [hl, h2]⟩
  rw [h1]
  have := congrArg Array.toList hd
  simpa [iArr] using this
set_option maxRecDepth 100000 in
theorem arg_key {b0 : Nat} {r : Reach} {v : Value} {d : DataW H} {ps : List MemPlace} (hv : Value.okWide Try.prog w r b0 34 v) (h : DataW.Trod enc Try.prog w base spare held 34 v d ps) : ∃ code mark : List UInt8, v = .agg (byts (code ++ mark)).toArray ∧ code.length = 16 ∧ mark.length = 32 := by
  obtain ⟨cs, rfl, _⟩ := okWide_struct Try.underlying34 hv
  obtain ⟨fuel, hf0⟩ := h
  have hf : DataW.trod enc Try.prog w base spare held fuel 34 cs.toList = some (d, ps) := hf0
  obtain ⟨y0, y1, n, -, hl, h0, h1⟩ := trod_struct2 Try.underlying34 hf
  obtain ⟨code, e0, l0⟩ := arr_bytes Try.underlying31 (by kernel_rfl) h0
  obtain ⟨mark, e1, l1⟩ := arr_bytes Try.underlying32 (by kernel_rfl) h1
  refine ⟨code, mark, ?_, l0, l1⟩
  have hl2 : cs.toList.length = 48 := hl.trans (by kernel_rfl)
  have e0' : cs.toList.take 16 = byts code := e0
  have e1' : (cs.toList.drop 16).take 32 = byts mark := e1
  rw [List.take_of_length_le (by rw [List.length_drop]; omega)] at e1'
  have hcs : cs = cs.toList.toArray := by simp
  rw [hcs, ← List.take_append_drop 16 cs.toList, e0', e1']
  simp [byts]
end
end Go.Proofs.Ytpmindbipclphaa
set_option linter.unusedSimpArgs false
set_option linter.unusedVariables false
namespace Go.Proofs.Ytpmindbipclphaa
open Go.RowKit

theorem fixForm_inj {a b : Nat} (ha : a < 18446744073709551616) (hb : b < 18446744073709551616) (h : fixForm a 8 = fixForm b 8) : a = b := by
  have h1 := rFixed_formS a 8 (by decide) (by decide) []
  have h2 := rFixed_formS b 8 (by decide) (by decide) []
  rw [h, h2] at h1
  injection h1 with h3 _
  have e1 : a % 256 ^ 8 = a := Nat.mod_eq_of_lt ha
  have e2 : b % 256 ^ 8 = b := Nat.mod_eq_of_lt hb
  omega
theorem pack_inj (code mark : List UInt8) {da db : Bool} {na nb : Nat} {text : List UInt8} (ha : na < 9223372036854775808) (hb : nb < 9223372036854775808) (h : packL code mark (wordL da na) text = packL code mark (wordL db nb) text) : da = db ∧ na = nb := by
  refine word_inj ha hb (fixForm_inj (word_lt da ha) (word_lt db hb) ?_)
  have := congrArg (List.take 8) h
  unfold packL headL at this
  rw [List.append_assoc, List.append_assoc, List.take_left' (fixForm_len _ 8), List.take_left' (fixForm_len _ 8)] at this
  exact this
theorem nonce_eqlT (da : Bool) (na : Int) (db : Bool) (nb : Int) (W : World) : (binOp .eql 24 (.agg #[.bool da, .int .u64 na]) (.agg #[.bool db, .int .u64 nb])).run Try.prog W = .ok (.bool (decide (da = db ∧ na = nb))) W := by
  go_simp
  by_cases h1 : da = db <;> by_cases h2 : na = nb <;> simp [h1, h2]
set_option maxHeartbeats 4000000 in
set_option maxRecDepth 100000 in
theorem sealApart_any {code mark text : List UInt8} {da db : Bool} {na nb : Nat} {tv : Value} {w : World} (hc : code.length = 16) (hm : mark.length = 32) (hna : na < 18446744073709551616) (hnb : nb < 18446744073709551616) (ht : RdB w tv text) :
    Calls Try.prog 6 #[.agg (byts (code ++ mark)).toArray, nonceV da na, nonceV db nb, tv] w fun e w' => e = .returned (.bool true) ∧ Fr0 w w' := by
  obtain ⟨At, ct, rfl, -, -, -⟩ := ht.form
  have KN := Lib.hid known06_any
  have HT := Lib.hid ht
  obtain ⟨nt, hnt⟩ : ∃ n, n = text.length := ⟨_, rfl⟩
  rw [← hnt] at HT ⊢
  obtain ⟨wa, hwa⟩ : ∃ W, W = ((w.alloc (.cells (byts (code ++ mark)).toArray 34)).alloc (.cells #[.bool da, .int .u64 (na : Int)] 24)).alloc (.cells #[.bool db, .int .u64 (nb : Int)] 24) := ⟨_, rfl⟩
  have FX := Lib.hid (show Fr0 w wa by rw [hwa]; exact (((Fr0.refl w).alloc _).alloc _).alloc _)
  have BK := Lib.hid (show Blk wa w.heap.size (byts (code ++ mark)).toArray 34 by rw [hwa]; exact ((Blk.new w _ 34).alloc _).alloc _)
  have BX := Lib.hid (show Blk wa (w.heap.size + 1) #[.bool da, .int .u64 (na : Int)] 24 by rw [hwa]; have := (Blk.new (w.alloc (.cells (byts (code ++ mark)).toArray 34)) #[.bool da, .int .u64 (na : Int)] 24).alloc (.cells #[.bool db, .int .u64 (nb : Int)] 24); rw [World.size_alloc] at this; exact this)
  have BY := Lib.hid (show Blk wa (w.heap.size + 1 + 1) #[.bool db, .int .u64 (nb : Int)] 24 by rw [hwa]; have := Blk.new ((w.alloc (.cells (byts (code ++ mark)).toArray 34)).alloc (.cells #[.bool da, .int .u64 (na : Int)] 24)) #[.bool db, .int .u64 (nb : Int)] 24; rw [World.size_alloc, World.size_alloc] at this; exact this)
  have HSA := Lib.hid (fun W (hr : RdB W (.slice At nt ct) text) (h : na < 9223372036854775808) (h3 : text.length ≤ 300) => show Calls Try.prog 14 #[.agg (byts (code ++ mark)).toArray, .agg #[.bool da, .int .u64 (na : Int)], .slice At nt ct] W (fun e w' => ∃ A c, e = .returned (.tuple #[.slice A (nt + 24) c, .int .i64 0]) ∧ RdB w' (.slice A (nt + 24) c) (packL code mark (wordL da na) text) ∧ Fr0 W w') from (seal_good (dn := da) hc hm h hr (by omega)).mono (by
    rintro e w' ⟨v, rfl, ho, hf⟩
    have r := RdB.of_own ho
    obtain ⟨A, c, rfl, -, -, -⟩ := r.form
    rw [packL_len, ← hnt] at r ⊢
    exact ⟨A, c, rfl, r, hf⟩))
  have HSB := Lib.hid (fun W (hr : RdB W (.slice At nt ct) text) (h : nb < 9223372036854775808) (h3 : text.length ≤ 300) => show Calls Try.prog 14 #[.agg (byts (code ++ mark)).toArray, .agg #[.bool db, .int .u64 (nb : Int)], .slice At nt ct] W (fun e w' => ∃ A c, e = .returned (.tuple #[.slice A (nt + 24) c, .int .i64 0]) ∧ RdB w' (.slice A (nt + 24) c) (packL code mark (wordL db nb) text) ∧ Fr0 W w') from (seal_good (dn := db) hc hm h hr (by omega)).mono (by
    rintro e w' ⟨v, rfl, ho, hf⟩
    have r := RdB.of_own ho
    obtain ⟨A, c, rfl, -, -, -⟩ := r.form
    rw [packL_len, ← hnt] at r ⊢
    exact ⟨A, c, rfl, r, hf⟩))
  have HCK := Lib.hid (show (Try.prog.info? 34).map (·.size) = some (byts (code ++ mark)).toArray.size by rw [byts_size, List.length_append, hc, hm]; kernel_rfl)
  obtain ⟨ck, hck⟩ : ∃ c, c = (byts (code ++ mark)).toArray := ⟨_, rfl⟩
  rw [← hck] at BK HSA HSB HCK hwa ⊢
  have HNT := Lib.hid hnt
  unfold nonceV
  clear hck hc hm hnt ht
  subst hwa
  by_cases h1 : 9223372036854775808 ≤ na
  · have t1 : decide ((9223372036854775808 : Int) ≤ (na : Int)) = true := decide_eq_true (by omega)
    clear h1
    go_enter Try.func6, Try.ntmps6
    go_wp2_with (go_at_call 13; refine (KN.out _).mono ?_; rintro e w1 ⟨rfl, hf⟩; have F1 := Lib.hid (Fr0.trans FX.out hf); have x1 := ((BX.out).fr0 hf).cell 1 rfl; clear hf)
    go_ret
    exact ⟨rfl, F1.out⟩
  by_cases h2 : 9223372036854775808 ≤ nb
  · have t1 : decide ((9223372036854775808 : Int) ≤ (na : Int)) = false := decide_eq_false (by omega)
    have t2 : decide ((9223372036854775808 : Int) ≤ (nb : Int)) = true := decide_eq_true (by omega)
    clear h1 h2
    go_enter Try.func6, Try.ntmps6
    go_wp2_with (go_at_call 13; refine (KN.out _).mono ?_; rintro e w1 ⟨rfl, hf⟩; have F1 := Lib.hid (Fr0.trans FX.out hf); have x1 := ((BX.out).fr0 hf).cell 1 rfl; have y1 := ((BY.out).fr0 hf).cell 1 rfl; clear hf)
    go_ret
    exact ⟨rfl, F1.out⟩
  have t1 : decide ((9223372036854775808 : Int) ≤ (na : Int)) = false := decide_eq_false (by omega)
  have t2 : decide ((9223372036854775808 : Int) ≤ (nb : Int)) = false := decide_eq_false (by omega)
  by_cases h3 : 300 < nt
  · have t3 : decide ((300 : Int) < (nt : Int)) = true := decide_eq_true (by omega)
    clear h1 h2 h3
    go_enter Try.func6, Try.ntmps6
    go_wp2_with (go_at_call 13; refine (KN.out _).mono ?_; rintro e w1 ⟨rfl, hf⟩; have F1 := Lib.hid (Fr0.trans FX.out hf); have x1 := ((BX.out).fr0 hf).cell 1 rfl; have y1 := ((BY.out).fr0 hf).cell 1 rfl; clear hf)
    go_ret
    exact ⟨rfl, F1.out⟩
  have t3 : decide ((300 : Int) < (nt : Int)) = false := decide_eq_false (by omega)
  have hA : na < 9223372036854775808 := by omega
  have hB : nb < 9223372036854775808 := by omega
  have HSA2 := Lib.hid (fun W hr => HSA.out W hr hA (by have := HNT.out; omega))
  have HSB2 := Lib.hid (fun W hr => HSB.out W hr hB (by have := HNT.out; omega))
  have HWA := Lib.hid (fun W => show Calls Try.prog 9 #[.agg #[.bool da, .int .u64 (na : Int)]] W (fun e w' => e = .returned (.tuple #[.int .u64 (wordL da na : Int), .int .i64 0]) ∧ Fr0 W w') by
    have h := nword_any (dn := da) (n := na) (w := W) (by omega)
    rw [if_neg (by omega), if_neg (by omega)] at h
    exact h)
  have HWB := Lib.hid (fun W => show Calls Try.prog 9 #[.agg #[.bool db, .int .u64 (nb : Int)]] W (fun e w' => e = .returned (.tuple #[.int .u64 (wordL db nb : Int), .int .i64 0]) ∧ Fr0 W w') by
    have h := nword_any (dn := db) (n := nb) (w := W) (by omega)
    rw [if_neg (by omega), if_neg (by omega)] at h
    exact h)
  have HOA := Lib.hid (fun W => show Calls Try.prog 11 #[.int .u64 (wordL da na : Int)] W (fun e w' => e = .returned (.agg #[.bool da, .int .u64 (na : Int)]) ∧ Fr0 W w') by
    have h := nof_any (w := W) (word_lt da hA)
    rw [ofD_word da hA, ofN_word da hA] at h
    exact h)
  have HOB := Lib.hid (fun W => show Calls Try.prog 11 #[.int .u64 (wordL db nb : Int)] W (fun e w' => e = .returned (.agg #[.bool db, .int .u64 (nb : Int)]) ∧ Fr0 W w') by
    have h := nof_any (w := W) (word_lt db hB)
    rw [ofD_word db hB, ofN_word db hB] at h
    exact h)
  have HLA := Lib.hid (show (packL code mark (wordL da na) text).length = nt + 24 by rw [packL_len, HNT.out])
  have HLB := Lib.hid (show (packL code mark (wordL db nb) text).length = nt + 24 by rw [packL_len, HNT.out])
  have HEW := Lib.hid (fun h => word_inj (a := da) (b := db) hA hB h)
  have HEP := Lib.hid (fun h => pack_inj code mark (da := da) (db := db) (text := text) hA hB h)
  have HES := Lib.hid (show da = db ∧ na = nb → wordL da na = wordL db nb ∧ packL code mark (wordL da na) text = packL code mark (wordL db nb) text from by rintro ⟨rfl, rfl⟩; exact ⟨rfl, rfl⟩)
  obtain ⟨xa, hxa⟩ : ∃ x, x = wordL da na := ⟨_, rfl⟩
  obtain ⟨xb, hxb⟩ : ∃ x, x = wordL db nb := ⟨_, rfl⟩
  rw [← hxa] at HWA HOA HSA2 HLA HEW HEP HES
  rw [← hxb] at HWB HOB HSB2 HLB HEW HEP HES
  obtain ⟨pa, hpa⟩ : ∃ x, x = packL code mark xa text := ⟨_, rfl⟩
  obtain ⟨pb, hpb⟩ : ∃ x, x = packL code mark xb text := ⟨_, rfl⟩
  rw [← hpa] at HSA2 HLA HEP HES
  rw [← hpb] at HSB2 HLB HEP HES
  clear h1 h2 h3 hA hB hxa hxb hpa hpb HSA HSB hna hnb
  go_enter Try.func6, Try.ntmps6
  go_upto_region 9 with (first
    | (have _q := R4; go_at_call 14; refine (HSB2.out _ ((HT.out).fr0 F4.out)).mono ?_; rintro e w5 ⟨A5, c5, rfl, hr, hf⟩; have F5 := Lib.hid (Fr0.trans F4.out hf); have R5 := Lib.hid hr; have R45 := Lib.hid ((R4.out).fr0 hf); have X5 := Lib.hid ((X4.out).fr0 hf); have Y5 := Lib.hid ((Y4.out).fr0 hf); clear hr hf)
    | (have _q := F3; go_at_call 14; refine (HSA2.out _ ((HT.out).fr0 F3.out)).mono ?_; rintro e w4 ⟨A4, c4, rfl, hr, hf⟩; have F4 := Lib.hid (Fr0.trans F3.out hf); have R4 := Lib.hid hr; have K4 := Lib.hid ((K3.out).fr0 hf); have X4 := Lib.hid ((X3.out).fr0 hf); have Y4 := Lib.hid ((Y3.out).fr0 hf); have y0 := (Y4.out).cell 0 rfl; have y1 := (Y4.out).cell 1 rfl; clear hr hf)
    | (have _q := F2; go_at_call 9; refine (HWB.out _).mono ?_; rintro e w3 ⟨rfl, hf⟩; have F3 := Lib.hid (Fr0.trans F2.out hf); have K3 := Lib.hid ((K2.out).fr0 hf); have X3 := Lib.hid ((X2.out).fr0 hf); have Y3 := Lib.hid ((Y2.out).fr0 hf); have x0 := (X3.out).cell 0 rfl; have x1 := (X3.out).cell 1 rfl; clear hf)
    | (have _q := F1; go_at_call 9; refine (HWA.out _).mono ?_; rintro e w2 ⟨rfl, hf⟩; have F2 := Lib.hid (Fr0.trans F1.out hf); have K2 := Lib.hid ((K1.out).fr0 hf); have X2 := Lib.hid ((X1.out).fr0 hf); have Y2 := Lib.hid ((Y1.out).fr0 hf); have y0 := (Y2.out).cell 0 rfl; have y1 := (Y2.out).cell 1 rfl; clear hf)
    | (go_at_call 13; refine (KN.out _).mono ?_; rintro e w1 ⟨rfl, hf⟩; have F1 := Lib.hid (Fr0.trans FX.out hf); have K1 := Lib.hid ((BK.out).fr0 hf); have X1 := Lib.hid ((BX.out).fr0 hf); have Y1 := Lib.hid ((BY.out).fr0 hf); have x0 := (X1.out).cell 0 rfl; have x1 := (X1.out).cell 1 rfl; have y1 := (Y1.out).cell 1 rfl; clear hf)
    | (have _q := K4; refine list_load_blk rfl 34 _ rfl w.heap.size rfl 34 ck K4.out _ Try.underlying34 rfl HCK.out ?_)
    | (have _q := K3; refine list_load_blk rfl 34 _ rfl w.heap.size rfl 34 ck K3.out _ Try.underlying34 rfl HCK.out ?_))
  have XD := Lib.hid (Blk.drew X5.out)
  have YD := Lib.hid (Blk.drew Y5.out)
  have RA := Lib.hid ((R45.out).fr0 ((Fr0.refl w5).drew))
  have RB := Lib.hid ((R5.out).fr0 ((Fr0.refl w5).drew))
  have HEA := Lib.hid (fun W => show (binOp .eql 24 (.agg #[.bool da, .int .u64 (na : Int)]) (.agg #[.bool da, .int .u64 (na : Int)])).run Try.prog W = .ok (.bool true) W by rw [nonce_eqlT, decide_eq_true ⟨rfl, rfl⟩])
  have HEB := Lib.hid (fun W => show (binOp .eql 24 (.agg #[.bool db, .int .u64 (nb : Int)]) (.agg #[.bool db, .int .u64 (nb : Int)])).run Try.prog W = .ok (.bool true) W by rw [nonce_eqlT, decide_eq_true ⟨rfl, rfl⟩])
  clear X4 Y4 K3 K4 X3 Y3 X2 Y2 K2 K1 X1 Y1 x0 x1 y0 y1 t1 t2 t3 F1 F2 F3 F4 R4
  by_cases hq : da = db ∧ na = nb
  · obtain ⟨rfl, rfl⟩ := HES.out hq
    obtain ⟨rfl, rfl⟩ := hq
    have HE := Lib.hid HEA.out
    refine wp_region_class (fun W => Fr0 w5.drew W) (by kernel_rfl) (by kernel_rfl) (Fr0.refl _) ?_
    refine q_move rfl _ rfl ?_
    try simp only [Act.put, List.setIfInBounds_toArray, List.set_cons_zero, List.set_cons_succ]
    refine q_val rfl (fun W hW => by go_simp; try rfl) ?_
    try simp only [Act.put, List.setIfInBounds_toArray, List.set_cons_zero, List.set_cons_succ]
    refine q_move rfl _ rfl ?_
    try simp only [Act.put, List.setIfInBounds_toArray, List.set_cons_zero, List.set_cons_succ]
    refine q_move rfl _ rfl ?_
    try simp only [Act.put, List.setIfInBounds_toArray, List.set_cons_zero, List.set_cons_succ]
    refine q_val rfl (fun W hW => by go_simp; try rfl) ?_
    try simp only [Act.put, List.setIfInBounds_toArray, List.set_cons_zero, List.set_cons_succ]
    refine q_val rfl (fun W hW => by go_simp; try rfl) ?_
    try simp only [Act.put, List.setIfInBounds_toArray, List.set_cons_zero, List.set_cons_succ]
    refine q_move rfl _ rfl ?_
    try simp only [Act.put, List.setIfInBounds_toArray, List.set_cons_zero, List.set_cons_succ]
    refine q_move rfl _ rfl ?_
    try simp only [Act.put, List.setIfInBounds_toArray, List.set_cons_zero, List.set_cons_succ]
    refine q_val rfl (fun W hW => by go_simp; try rfl) ?_
    try simp only [Act.put, List.setIfInBounds_toArray, List.set_cons_zero, List.set_cons_succ]
    refine q_val rfl (fun W hW => by go_simp; try rfl) ?_
    try simp only [Act.put, List.setIfInBounds_toArray, List.set_cons_zero, List.set_cons_succ]
    refine q_move rfl _ rfl ?_
    try simp only [Act.put, List.setIfInBounds_toArray, List.set_cons_zero, List.set_cons_succ]
    refine q_move rfl _ rfl ?_
    try simp only [Act.put, List.setIfInBounds_toArray, List.set_cons_zero, List.set_cons_succ]
    refine q_val rfl (fun W hW => by go_simp; try rfl) ?_
    try simp only [Act.put, List.setIfInBounds_toArray, List.set_cons_zero, List.set_cons_succ]
    refine q_val rfl (fun W hW => by go_simp; try rfl) ?_
    try simp only [Act.put, List.setIfInBounds_toArray, List.set_cons_zero, List.set_cons_succ]
    refine q_move rfl _ rfl ?_
    try simp only [Act.put, List.setIfInBounds_toArray, List.set_cons_zero, List.set_cons_succ]
    refine q_move rfl _ rfl ?_
    try simp only [Act.put, List.setIfInBounds_toArray, List.set_cons_zero, List.set_cons_succ]
    refine q_move rfl _ rfl ?_
    try simp only [Act.put, List.setIfInBounds_toArray, List.set_cons_zero, List.set_cons_succ]
    refine q_val (v := .bool true) rfl (fun W hW => by go_simp; try rfl) ?_
    try simp only [Act.put, List.setIfInBounds_toArray, List.set_cons_zero, List.set_cons_succ]
    refine q_load rfl 24 _ rfl (w.heap.size + 1) rfl 24 #[.bool da, .int .u64 (na : Int)] (fun W hW => (XD.out).fr0 hW) _ Try.underlying24 rfl (by kernel_rfl) ?_
    try simp only [Act.put, List.setIfInBounds_toArray, List.set_cons_zero, List.set_cons_succ]
    refine q_load rfl 24 _ rfl (w.heap.size + 1 + 1) rfl 24 #[.bool da, .int .u64 (na : Int)] (fun W hW => (YD.out).fr0 hW) _ Try.underlying24 rfl (by kernel_rfl) ?_
    try simp only [Act.put, List.setIfInBounds_toArray, List.set_cons_zero, List.set_cons_succ]
    refine q_bin rfl _ _ _ _ _ rfl (fun W => run_eqGuard_agg W _ _ _ _ _ _ (by kernel_rfl)) (fun W => HE.out W) ?_
    try simp only [Act.put, List.setIfInBounds_toArray, List.set_cons_zero, List.set_cons_succ]
    refine q_val (v := .bool true) rfl (fun W hW => by go_simp; try rfl) ?_
    try simp only [Act.put, List.setIfInBounds_toArray, List.set_cons_zero, List.set_cons_succ]
    refine q_val rfl (fun W hW => by go_simp; try rfl) ?_
    try simp only [Act.put, List.setIfInBounds_toArray, List.set_cons_zero, List.set_cons_succ]
    refine q_move rfl _ rfl ?_
    try simp only [Act.put, List.setIfInBounds_toArray, List.set_cons_zero, List.set_cons_succ]
    refine q_move rfl _ rfl ?_
    try simp only [Act.put, List.setIfInBounds_toArray, List.set_cons_zero, List.set_cons_succ]
    refine q_val (v := .string (str pa)) rfl (fun W hW => by have hcp := conv_ownN HLA.out ((RA.out).fr0 hW); go_simp; try rfl) ?_
    try simp only [Act.put, List.setIfInBounds_toArray, List.set_cons_zero, List.set_cons_succ]
    refine q_move rfl _ rfl ?_
    try simp only [Act.put, List.setIfInBounds_toArray, List.set_cons_zero, List.set_cons_succ]
    refine q_val (v := .string (str pa)) rfl (fun W hW => by have hcp := conv_ownN HLB.out ((RB.out).fr0 hW); go_simp; try rfl) ?_
    try simp only [Act.put, List.setIfInBounds_toArray, List.set_cons_zero, List.set_cons_succ]
    refine q_val (v := .bool true) rfl (fun W hW => by go_simp; try rfl) ?_
    try simp only [Act.put, List.setIfInBounds_toArray, List.set_cons_zero, List.set_cons_succ]
    refine q_load rfl 24 _ rfl (w.heap.size + 1) rfl 24 #[.bool da, .int .u64 (na : Int)] (fun W hW => (XD.out).fr0 hW) _ Try.underlying24 rfl (by kernel_rfl) ?_
    try simp only [Act.put, List.setIfInBounds_toArray, List.set_cons_zero, List.set_cons_succ]
    refine q_load rfl 24 _ rfl (w.heap.size + 1 + 1) rfl 24 #[.bool da, .int .u64 (na : Int)] (fun W hW => (YD.out).fr0 hW) _ Try.underlying24 rfl (by kernel_rfl) ?_
    try simp only [Act.put, List.setIfInBounds_toArray, List.set_cons_zero, List.set_cons_succ]
    refine q_bin rfl _ _ _ _ _ rfl (fun W => run_eqGuard_agg W _ _ _ _ _ _ (by kernel_rfl)) (fun W => HE.out W) ?_
    try simp only [Act.put, List.setIfInBounds_toArray, List.set_cons_zero, List.set_cons_succ]
    refine q_val (v := .bool true) rfl (fun W hW => by go_simp; try rfl) ?_
    try simp only [Act.put, List.setIfInBounds_toArray, List.set_cons_zero, List.set_cons_succ]
    refine q_val rfl (fun W hW => by go_simp; try rfl) ?_
    try simp only [Act.put, List.setIfInBounds_toArray, List.set_cons_zero, List.set_cons_succ]
    refine q_move rfl _ rfl ?_
    try simp only [Act.put, List.setIfInBounds_toArray, List.set_cons_zero, List.set_cons_succ]
    refine q_move rfl _ rfl ?_
    try simp only [Act.put, List.setIfInBounds_toArray, List.set_cons_zero, List.set_cons_succ]
    refine q_call rfl 11 #[.int .u64 (xa : Int)] (fun _ => by go_simp; try rfl) (fun W hW => (HOA.out W).mono (by rintro e W' ⟨rfl, hf⟩; exact ⟨rfl, Fr0.trans hW hf⟩)) ?_
    try simp only [Act.put, List.setIfInBounds_toArray, List.set_cons_zero, List.set_cons_succ]
    refine q_load rfl 24 _ rfl (w.heap.size + 1) rfl 24 #[.bool da, .int .u64 (na : Int)] (fun W hW => (XD.out).fr0 hW) _ Try.underlying24 rfl (by kernel_rfl) ?_
    try simp only [Act.put, List.setIfInBounds_toArray, List.set_cons_zero, List.set_cons_succ]
    refine q_bin rfl _ _ _ _ _ rfl (fun W => run_eqGuard_agg W _ _ _ _ _ _ (by kernel_rfl)) (fun W => HEA.out W) ?_
    try simp only [Act.put, List.setIfInBounds_toArray, List.set_cons_zero, List.set_cons_succ]
    refine q_val rfl (fun W hW => by go_simp; try rfl) ?_
    try simp only [Act.put, List.setIfInBounds_toArray, List.set_cons_zero, List.set_cons_succ]
    refine q_move rfl _ rfl ?_
    try simp only [Act.put, List.setIfInBounds_toArray, List.set_cons_zero, List.set_cons_succ]
    refine q_move rfl _ rfl ?_
    try simp only [Act.put, List.setIfInBounds_toArray, List.set_cons_zero, List.set_cons_succ]
    refine q_call rfl 11 #[.int .u64 (xa : Int)] (fun _ => by go_simp; try rfl) (fun W hW => (HOB.out W).mono (by rintro e W' ⟨rfl, hf⟩; exact ⟨rfl, Fr0.trans hW hf⟩)) ?_
    try simp only [Act.put, List.setIfInBounds_toArray, List.set_cons_zero, List.set_cons_succ]
    refine q_load rfl 24 _ rfl (w.heap.size + 1 + 1) rfl 24 #[.bool da, .int .u64 (na : Int)] (fun W hW => (YD.out).fr0 hW) _ Try.underlying24 rfl (by kernel_rfl) ?_
    try simp only [Act.put, List.setIfInBounds_toArray, List.set_cons_zero, List.set_cons_succ]
    refine q_bin rfl _ _ _ _ _ rfl (fun W => run_eqGuard_agg W _ _ _ _ _ _ (by kernel_rfl)) (fun W => HEB.out W) ?_
    try simp only [Act.put, List.setIfInBounds_toArray, List.set_cons_zero, List.set_cons_succ]
    refine q_val rfl (fun W hW => by go_simp; try rfl) ?_
    try simp only [Act.put, List.setIfInBounds_toArray, List.set_cons_zero, List.set_cons_succ]
    refine q_assign rfl _ rfl ?_
    try simp only [Act.put, List.setIfInBounds_toArray, List.set_cons_zero, List.set_cons_succ]
    refine q_nil ?_
    intro w' hC
    have FW := Lib.hid (Fr0.trans (Fr0.drew F5.out) hC)
    go_wp2_with fail
    go_ret
    exact ⟨rfl, FW.out⟩
  · have hx : ¬ xa = xb := fun h => hq (HEW.out h)
    have hxi : ¬ (xa : Int) = (xb : Int) := by omega
    have hp : ¬ pa = pb := fun h => hq (HEP.out h)
    have hs3 : ¬ str pa = str pb := fun h => hp (str_inj h)
    have hs1 : ((str pa).toList == (str pb).toList) = false := by rw [ByteArray.toList_eq, ByteArray.toList_eq, str_toList, str_toList]; exact beq_eq_false_iff_ne.2 hp
    have HE := Lib.hid (fun W => show (binOp .eql 24 (.agg #[.bool da, .int .u64 (na : Int)]) (.agg #[.bool db, .int .u64 (nb : Int)])).run Try.prog W = .ok (.bool false) W by rw [nonce_eqlT, decide_eq_false (fun h => hq ⟨h.1, by have := h.2; omega⟩)])
    clear hp hq
    refine wp_region_class (fun W => Fr0 w5.drew W) (by kernel_rfl) (by kernel_rfl) (Fr0.refl _) ?_
    refine q_move rfl _ rfl ?_
    try simp only [Act.put, List.setIfInBounds_toArray, List.set_cons_zero, List.set_cons_succ]
    refine q_val rfl (fun W hW => by go_simp; try rfl) ?_
    try simp only [Act.put, List.setIfInBounds_toArray, List.set_cons_zero, List.set_cons_succ]
    refine q_move rfl _ rfl ?_
    try simp only [Act.put, List.setIfInBounds_toArray, List.set_cons_zero, List.set_cons_succ]
    refine q_move rfl _ rfl ?_
    try simp only [Act.put, List.setIfInBounds_toArray, List.set_cons_zero, List.set_cons_succ]
    refine q_val rfl (fun W hW => by go_simp; try rfl) ?_
    try simp only [Act.put, List.setIfInBounds_toArray, List.set_cons_zero, List.set_cons_succ]
    refine q_val rfl (fun W hW => by go_simp; try rfl) ?_
    try simp only [Act.put, List.setIfInBounds_toArray, List.set_cons_zero, List.set_cons_succ]
    refine q_move rfl _ rfl ?_
    try simp only [Act.put, List.setIfInBounds_toArray, List.set_cons_zero, List.set_cons_succ]
    refine q_move rfl _ rfl ?_
    try simp only [Act.put, List.setIfInBounds_toArray, List.set_cons_zero, List.set_cons_succ]
    refine q_val rfl (fun W hW => by go_simp; try rfl) ?_
    try simp only [Act.put, List.setIfInBounds_toArray, List.set_cons_zero, List.set_cons_succ]
    refine q_val rfl (fun W hW => by go_simp; try rfl) ?_
    try simp only [Act.put, List.setIfInBounds_toArray, List.set_cons_zero, List.set_cons_succ]
    refine q_move rfl _ rfl ?_
    try simp only [Act.put, List.setIfInBounds_toArray, List.set_cons_zero, List.set_cons_succ]
    refine q_move rfl _ rfl ?_
    try simp only [Act.put, List.setIfInBounds_toArray, List.set_cons_zero, List.set_cons_succ]
    refine q_val rfl (fun W hW => by go_simp; try rfl) ?_
    try simp only [Act.put, List.setIfInBounds_toArray, List.set_cons_zero, List.set_cons_succ]
    refine q_val rfl (fun W hW => by go_simp; try rfl) ?_
    try simp only [Act.put, List.setIfInBounds_toArray, List.set_cons_zero, List.set_cons_succ]
    refine q_move rfl _ rfl ?_
    try simp only [Act.put, List.setIfInBounds_toArray, List.set_cons_zero, List.set_cons_succ]
    refine q_move rfl _ rfl ?_
    try simp only [Act.put, List.setIfInBounds_toArray, List.set_cons_zero, List.set_cons_succ]
    refine q_move rfl _ rfl ?_
    try simp only [Act.put, List.setIfInBounds_toArray, List.set_cons_zero, List.set_cons_succ]
    refine q_val (v := .bool false) rfl (fun W hW => by go_simp; try rfl) ?_
    try simp only [Act.put, List.setIfInBounds_toArray, List.set_cons_zero, List.set_cons_succ]
    refine q_load rfl 24 _ rfl (w.heap.size + 1) rfl 24 #[.bool da, .int .u64 (na : Int)] (fun W hW => (XD.out).fr0 hW) _ Try.underlying24 rfl (by kernel_rfl) ?_
    try simp only [Act.put, List.setIfInBounds_toArray, List.set_cons_zero, List.set_cons_succ]
    refine q_load rfl 24 _ rfl (w.heap.size + 1 + 1) rfl 24 #[.bool db, .int .u64 (nb : Int)] (fun W hW => (YD.out).fr0 hW) _ Try.underlying24 rfl (by kernel_rfl) ?_
    try simp only [Act.put, List.setIfInBounds_toArray, List.set_cons_zero, List.set_cons_succ]
    refine q_bin rfl _ _ _ _ _ rfl (fun W => run_eqGuard_agg W _ _ _ _ _ _ (by kernel_rfl)) (fun W => HE.out W) ?_
    try simp only [Act.put, List.setIfInBounds_toArray, List.set_cons_zero, List.set_cons_succ]
    refine q_val (v := .bool true) rfl (fun W hW => by go_simp; try rfl) ?_
    try simp only [Act.put, List.setIfInBounds_toArray, List.set_cons_zero, List.set_cons_succ]
    refine q_val rfl (fun W hW => by go_simp; try rfl) ?_
    try simp only [Act.put, List.setIfInBounds_toArray, List.set_cons_zero, List.set_cons_succ]
    refine q_move rfl _ rfl ?_
    try simp only [Act.put, List.setIfInBounds_toArray, List.set_cons_zero, List.set_cons_succ]
    refine q_move rfl _ rfl ?_
    try simp only [Act.put, List.setIfInBounds_toArray, List.set_cons_zero, List.set_cons_succ]
    refine q_val (v := .string (str pa)) rfl (fun W hW => by have hcp := conv_ownN HLA.out ((RA.out).fr0 hW); go_simp; try rfl) ?_
    try simp only [Act.put, List.setIfInBounds_toArray, List.set_cons_zero, List.set_cons_succ]
    refine q_move rfl _ rfl ?_
    try simp only [Act.put, List.setIfInBounds_toArray, List.set_cons_zero, List.set_cons_succ]
    refine q_val (v := .string (str pb)) rfl (fun W hW => by have hcp := conv_ownN HLB.out ((RB.out).fr0 hW); go_simp; try rfl) ?_
    try simp only [Act.put, List.setIfInBounds_toArray, List.set_cons_zero, List.set_cons_succ]
    refine q_val (v := .bool false) rfl (fun W hW => by go_simp; try rfl) ?_
    try simp only [Act.put, List.setIfInBounds_toArray, List.set_cons_zero, List.set_cons_succ]
    refine q_load rfl 24 _ rfl (w.heap.size + 1) rfl 24 #[.bool da, .int .u64 (na : Int)] (fun W hW => (XD.out).fr0 hW) _ Try.underlying24 rfl (by kernel_rfl) ?_
    try simp only [Act.put, List.setIfInBounds_toArray, List.set_cons_zero, List.set_cons_succ]
    refine q_load rfl 24 _ rfl (w.heap.size + 1 + 1) rfl 24 #[.bool db, .int .u64 (nb : Int)] (fun W hW => (YD.out).fr0 hW) _ Try.underlying24 rfl (by kernel_rfl) ?_
    try simp only [Act.put, List.setIfInBounds_toArray, List.set_cons_zero, List.set_cons_succ]
    refine q_bin rfl _ _ _ _ _ rfl (fun W => run_eqGuard_agg W _ _ _ _ _ _ (by kernel_rfl)) (fun W => HE.out W) ?_
    try simp only [Act.put, List.setIfInBounds_toArray, List.set_cons_zero, List.set_cons_succ]
    refine q_val (v := .bool true) rfl (fun W hW => by go_simp; try rfl) ?_
    try simp only [Act.put, List.setIfInBounds_toArray, List.set_cons_zero, List.set_cons_succ]
    refine q_val rfl (fun W hW => by go_simp; try rfl) ?_
    try simp only [Act.put, List.setIfInBounds_toArray, List.set_cons_zero, List.set_cons_succ]
    refine q_move rfl _ rfl ?_
    try simp only [Act.put, List.setIfInBounds_toArray, List.set_cons_zero, List.set_cons_succ]
    refine q_move rfl _ rfl ?_
    try simp only [Act.put, List.setIfInBounds_toArray, List.set_cons_zero, List.set_cons_succ]
    refine q_call rfl 11 #[.int .u64 (xa : Int)] (fun _ => by go_simp; try rfl) (fun W hW => (HOA.out W).mono (by rintro e W' ⟨rfl, hf⟩; exact ⟨rfl, Fr0.trans hW hf⟩)) ?_
    try simp only [Act.put, List.setIfInBounds_toArray, List.set_cons_zero, List.set_cons_succ]
    refine q_load rfl 24 _ rfl (w.heap.size + 1) rfl 24 #[.bool da, .int .u64 (na : Int)] (fun W hW => (XD.out).fr0 hW) _ Try.underlying24 rfl (by kernel_rfl) ?_
    try simp only [Act.put, List.setIfInBounds_toArray, List.set_cons_zero, List.set_cons_succ]
    refine q_bin rfl _ _ _ _ _ rfl (fun W => run_eqGuard_agg W _ _ _ _ _ _ (by kernel_rfl)) (fun W => HEA.out W) ?_
    try simp only [Act.put, List.setIfInBounds_toArray, List.set_cons_zero, List.set_cons_succ]
    refine q_val rfl (fun W hW => by go_simp; try rfl) ?_
    try simp only [Act.put, List.setIfInBounds_toArray, List.set_cons_zero, List.set_cons_succ]
    refine q_move rfl _ rfl ?_
    try simp only [Act.put, List.setIfInBounds_toArray, List.set_cons_zero, List.set_cons_succ]
    refine q_move rfl _ rfl ?_
    try simp only [Act.put, List.setIfInBounds_toArray, List.set_cons_zero, List.set_cons_succ]
    refine q_call rfl 11 #[.int .u64 (xb : Int)] (fun _ => by go_simp; try rfl) (fun W hW => (HOB.out W).mono (by rintro e W' ⟨rfl, hf⟩; exact ⟨rfl, Fr0.trans hW hf⟩)) ?_
    try simp only [Act.put, List.setIfInBounds_toArray, List.set_cons_zero, List.set_cons_succ]
    refine q_load rfl 24 _ rfl (w.heap.size + 1 + 1) rfl 24 #[.bool db, .int .u64 (nb : Int)] (fun W hW => (YD.out).fr0 hW) _ Try.underlying24 rfl (by kernel_rfl) ?_
    try simp only [Act.put, List.setIfInBounds_toArray, List.set_cons_zero, List.set_cons_succ]
    refine q_bin rfl _ _ _ _ _ rfl (fun W => run_eqGuard_agg W _ _ _ _ _ _ (by kernel_rfl)) (fun W => HEB.out W) ?_
    try simp only [Act.put, List.setIfInBounds_toArray, List.set_cons_zero, List.set_cons_succ]
    refine q_val rfl (fun W hW => by go_simp; try rfl) ?_
    try simp only [Act.put, List.setIfInBounds_toArray, List.set_cons_zero, List.set_cons_succ]
    refine q_assign rfl _ rfl ?_
    try simp only [Act.put, List.setIfInBounds_toArray, List.set_cons_zero, List.set_cons_succ]
    refine q_nil ?_
    intro w' hC
    have FW := Lib.hid (Fr0.trans (Fr0.drew F5.out) hC)
    go_wp2_with fail
    go_ret
    exact ⟨rfl, FW.out⟩
namespace SealApart
open Go.ChangeShapes Go.WideShapes Go.ChangeAt
open Go.ChangeMaps (open_string shut_string)

theorem own : ownKnob Try.prog.godebug = none := by kernel_rfl
theorem laidOut : laidOutB Try.prog = true := by kernel_rfl

set_option maxRecDepth 100000 in
theorem lifted (os : Os) (started : os.Started) (H : Type) (enc : TypeId × Value → H) :
    ReturnsInHanded {} Try.checked os 6 .any (Rows.sealApartSpec.pre6 enc Try.prog Try.f6 Rows.sealApartRow.domain false) (Rows.sealApartSpec.post enc Try.prog Try.f6 false true false false) := by
  refine returnsInHanded_of_change (C := Try.checked) own started (by kernel_rfl) Try.func6
    (ChangeSpec.witness6 (enc := enc) (C := Try.checked) false ⟨#[], #[.agg (Array.replicate 48 (.int .u8 0)), .agg #[.bool false, .int .u64 0], .agg #[.bool false, .int .u64 0], .slice none 0 0], []⟩ 8 (by kernel_rfl) (by kernel_rfl) (by kernel_rfl) (by kernel_rfl)) ?_
  intro W base args ds gs before hval0 hW hcnd _
  have hval : ∀ (j : Nat) t v, Try.f6.params[j]? = some t → args[j]? = some v → Value.okWide Try.prog W .any base t v := hval0
  have hW' := hW
  obtain ⟨p, q, hA0, hV, rfl, hfz, hnd⟩ := hW
  have hA : DataW.TrodAll enc Try.prog W 0 (fun _ => true) true Try.f6.params.toList args.toList ds p := hA0
  rw [Try.params6] at hA hval
  obtain ⟨v0, vs0, d0', ds0, p0, q0, hargs, rfl, rfl, h0, r0⟩ := trodAll_cons hA
  obtain ⟨v1, vs1, d1', ds1, p1, q1, rfl, rfl, rfl, h1, r1⟩ := trodAll_cons r0
  obtain ⟨v2, vs2, d2', ds2, p2, q2, rfl, rfl, rfl, h2, r2⟩ := trodAll_cons r1
  obtain ⟨v3, vs3, d3', ds3, p3, q3, rfl, rfl, rfl, h3, r3⟩ := trodAll_cons r2
  obtain ⟨rfl, rfl, rfl⟩ := trodAll_nil r3
  obtain rfl : args = #[v0, v1, v2, v3] := by cases args; simp_all
  obtain ⟨rfl, rfl⟩ := trodVars_none hV
  have k0 := h0
  have lt0 : ∀ x ∈ p0, x.block < W.heap.size := by obtain ⟨m, hm⟩ := k0; exact DataW.trod_lt m _ _ _ hm
  obtain ⟨code0, mark0, rfl, hc0, hm0⟩ := arg_key (hval 0 34 v0 rfl rfl) h0
  have k1 := h1
  have lt1 : ∀ x ∈ p1, x.block < W.heap.size := by obtain ⟨m, hm⟩ := k1; exact DataW.trod_lt m _ _ _ hm
  obtain ⟨dn1, n1, rfl, hn1⟩ := arg_nonce (hval 1 24 v1 rfl rfl) h1
  have k2 := h2
  have lt2 : ∀ x ∈ p2, x.block < W.heap.size := by obtain ⟨m, hm⟩ := k2; exact DataW.trod_lt m _ _ _ hm
  obtain ⟨dn2, n2, rfl, hn2⟩ := arg_nonce (hval 2 24 v2 rfl rfl) h2
  have k3 := h3
  have lt3 : ∀ x ∈ p3, x.block < W.heap.size := by obtain ⟨m, hm⟩ := k3; exact DataW.trod_lt m _ _ _ hm
  obtain ⟨A3, n3, c3, rfl⟩ := okWide_slice Try.underlying35 (hval 3 35 v3 rfl rfl)
  obtain ⟨fuel3, hf3⟩ := h3
  obtain ⟨d3, hy3⟩ := arg_bytes Try.underlying35 Try.underlying5 (by kernel_rfl) hf3
  clear hA0 hval0
  refine (sealApart_any hc0 hm0 hn1 hn2 hy3).mono fun e W' ⟨he, hfr⟩ => ?_
  have bel : Below W.heap.size W W' := Fr0.below hfr
  subst he
  exact ⟨_, rfl, _, _, _, [], _, [], hW', trodAll_mk1 (shut_bool Try.underlying4 _), (trodAll_cons_mk (Below.trod laidOut (by kernel_rfl) (of_decide_eq_true (by kernel_rfl)) k0 bel lt0) (trodAll_cons_mk (Below.trod laidOut (by kernel_rfl) (of_decide_eq_true (by kernel_rfl)) k1 bel lt1) (trodAll_cons_mk (Below.trod laidOut (by kernel_rfl) (of_decide_eq_true (by kernel_rfl)) k2 bel lt2) (trodAll_cons_mk (Below.trod laidOut (by kernel_rfl) (of_decide_eq_true (by kernel_rfl)) k3 bel lt3) trodAll_mk0)))), rfl, bel.frame _, fun h => by cases h⟩

theorem over : Rows.sealApartRow.holds Try.pinned (OpenSpec.ofChange Rows.sealApartSpec) :=
  OpenClaim.holds_of_wide 6 Try.f6 rfl rfl rfl rfl rfl rfl rfl ⟨rfl, rfl, rfl, rfl, rfl⟩ rfl rfl rfl rfl rfl (by kernel_rfl) Try.func6 (by kernel_rfl)
    (of_decide_eq_true (by kernel_rfl)) (by unfold Func.isWrapper; first | (rw [if_pos (by decide +kernel)]; kernel_rfl) | (rw [if_neg (by decide +kernel)]; exact ⟨rfl, rfl⟩))
    (fun os started H enc _ => lifted os started H enc)

theorem proved : Rows.SealApartSaid := over
#print axioms proved
end SealApart
end Go.Proofs.Ytpmindbipclphaa
