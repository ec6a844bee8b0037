/- MacLong: a key of more than 64 bytes is as its digest; noughts behind one, up to 64 bytes, change nothing; and a mark is two digests: the law returns true for any key, text and number. No condition. -/
import Derived.Test.YtjkcbklgddnbdaaMacKnown
import Derived.Test.YtjkcbklgddnbdaaStepsB
import Derived.Test.YtjkcbklgddnbdaaSlPut
import Derived.Test.YtjkcbklgddnbdaaArgs
import Derived.Test.YtjkcbklgddnbdaaWLits
import Derived.Handy
set_option linter.unusedSimpArgs false
namespace Go.Proofs.Ytjkcbklgddnbdaa
open Go.RowKit

theorem bin_run {P : Program} {o : Oper} {a : Act} {w : World} {op : BinOp} {ty t2 : TypeId} {x y : Operand} {vx vy v : Value} (ho : o.op = .binOp op ty x y t2) (hx : a.eval x = vx) (hy : a.eval y = vy)
    (hg : (eqGuard op ty x y vx vy).run P w = .ok () w) (hb : (binOp op ty vx vy).run P w = .ok v w) : (execOp a.eval o).run P w = .ok (.value v) w := by
  unfold execOp
  simp only [ho, hx, hy, Sem.run_bind, hg, hb, Result.andThen_ok]
  rfl
theorem rdz_of {w : World} {base n : Nat} {t : TypeId} {v : Value} {d : List UInt8} (h : w.ownsRow base t 1 v n (byts d)) (hn : d.length = n) : RdB w v d := by subst hn; exact RdB.of_own h
theorem keyN_dig {key : List UInt8} (h : 64 < key.length) : keyN (shaN key) = keyN key := by rw [keyN_great h, keyN_small (by rw [shaN_len]; decide)]
theorem blockN_dig {key : List UInt8} (h : 64 < key.length) (x : UInt8) : blockN (shaN key) x = blockN key x := by unfold blockN padK; rw [keyN_dig h]
theorem macN_dig {key : List UInt8} (h : 64 < key.length) (text : List UInt8) : macN (shaN key) text = macN key text := by unfold macN; rw [blockN_dig h, blockN_dig h]
theorem padK_zeros {key : List UInt8} {m : Nat} (h : key.length + m ≤ 64) : padK (key ++ List.replicate m 0) = padK key := by
  unfold padK
  rw [keyN_small (by rw [List.length_append, List.length_replicate]; exact h), keyN_small (by omega), List.append_assoc, List.length_append, List.length_replicate, List.replicate_append_replicate]
  congr 2
  omega
theorem macN_zeros {key : List UInt8} {m : Nat} (h : key.length + m ≤ 64) (text : List UInt8) : macN (key ++ List.replicate m 0) text = macN key text := by unfold macN blockN; rw [padK_zeros h]
/-- A mark of one text, its slice built before. -/
theorem mof_at {W : World} {g : Nat} {kv tv : Value} {key text : List UInt8} (hk : RdB W kv key) (hkl : key.length ≤ 900000) (ht : RdB W tv text) (htl : text.length ≤ 800000) (hb : Blk W g #[tv] 22) :
    Calls Try.prog 8 #[kv, .slice (some ⟨g, 0, none⟩) 1 1] W fun e w' => e = .returned (.agg (byts (macN key text)).toArray) ∧ Fr0 W w' := by
  have h := mof_any (w := W) (kv := kv) (key := key) (lv := .slice (some ⟨g, 0, none⟩) 1 1) (ds := [text]) (vs := [tv]) hk hkl
    ⟨rfl, ⟨_, _, rfl, by simp, by unfold maxLen; simp, fun h => by cases h⟩, fun _ => ⟨g, 0, 1, _, _, _, rfl, hb, fun j u hu => by simpa using hu⟩⟩
    (fun i hi => by
      simp at hi
      subst hi
      exact ⟨tv, rfl, ht⟩)
  have h2 := h (by simpa using htl)
  rw [show ([text] : List (List UInt8)).flatten = text from by simp] at h2
  exact h2
theorem sum_at {W : World} {g : Nat} {v1 v2 : Value} {d1 d2 : List UInt8} (h1 : RdB W v1 d1) (h2 : RdB W v2 d2) (hl : d1.length + d2.length ≤ 900000) (hb : Blk W g #[v1, v2] 22) : Calls Try.prog 11 #[.slice (some ⟨g, 0, none⟩) 2 2] W fun e w' => e = .returned (.agg (byts (shaN (d1 ++ d2))).toArray) ∧ Fr0 W w' := by
  have h := sum_any (w := W) (lv := .slice (some ⟨g, 0, none⟩) 2 2) (ds := [d1, d2]) (vs := [v1, v2])
    ⟨rfl, ⟨_, _, rfl, by simp, by unfold maxLen; simp, fun h => by cases h⟩, fun _ => ⟨g, 0, 2, _, _, _, rfl, hb, fun j u hu => by simpa using hu⟩⟩
    (fun i hi => by
      simp at hi
      rcases (by omega : i = 0 ∨ i = 1) with rfl | rfl
      · exact ⟨v1, rfl, h1⟩
      · exact ⟨v2, rfl, h2⟩)
  have h3 := h (by simpa using hl)
  rw [show ([d1, d2] : List (List UInt8)).flatten = d1 ++ d2 from by simp] at h3
  exact h3
theorem sum_at1 {W : World} {g : Nat} {v1 : Value} {d1 : List UInt8} (h1 : RdB W v1 d1) (hl : d1.length ≤ 900000) (hb : Blk W g #[v1] 22) : Calls Try.prog 11 #[.slice (some ⟨g, 0, none⟩) 1 1] W fun e w' => e = .returned (.agg (byts (shaN d1)).toArray) ∧ Fr0 W w' := by
  have h := sum_any (w := W) (lv := .slice (some ⟨g, 0, none⟩) 1 1) (ds := [d1]) (vs := [v1])
    ⟨rfl, ⟨_, _, rfl, by simp, by unfold maxLen; simp, fun h => by cases h⟩, fun _ => ⟨g, 0, 1, _, _, _, rfl, hb, fun j u hu => by simpa using hu⟩⟩
    (fun i hi => by
      simp at hi
      subst hi
      exact ⟨v1, rfl, h1⟩)
  have h3 := h (by simpa using hl)
  rw [show ([d1] : List (List UInt8)).flatten = d1 from by simp] at h3
  exact h3
set_option maxHeartbeats 4000000 in
set_option maxRecDepth 10000 in
theorem llong_any {kv tv : Value} {key text : List UInt8} {w : World} (more : Int) (hm0 : -9223372036854775808 ≤ more) (hm1 : more ≤ 9223372036854775807) (hk : RdB w kv key) (ht : RdB w tv text) : Calls Try.prog 5 #[kv, tv, .int .i64 more] w fun e w' => e = .returned (.bool true) ∧ Fr0 w w' := by
  obtain ⟨Ak, ck, rfl, hk1, hk2, -⟩ := hk.form
  obtain ⟨At, ct, rfl, ht1, ht2, -⟩ := ht.form
  unfold maxLen at hk2 ht2
  have HKN := Lib.hid (fun W => known03_any W)
  obtain ⟨nk, hnk⟩ : ∃ n, n = key.length := ⟨_, rfl⟩
  obtain ⟨nt, hnt⟩ : ∃ n, n = text.length := ⟨_, rfl⟩
  have HKE := Lib.hid (show RdB w (.slice Ak nk ck) key from by rw [hnk]; exact hk)
  have HTE := Lib.hid (show RdB w (.slice At nt ct) text from by rw [hnt]; exact ht)
  rw [← hnk] at hk1 ⊢
  rw [← hnt] at ht1 ⊢
  have HNK := Lib.hid hnk.symm
  have HNT := Lib.hid hnt.symm
  clear hk ht hnk hnt
  by_cases hkl : nk ≤ 300
  · by_cases htl : nt ≤ 300
    · have HK9 := Lib.hid (show key.length ≤ 900000 by rw [HNK.out]; omega)
      have HT9 := Lib.hid (show text.length ≤ 800000 by rw [HNT.out]; omega)
      have hiw := dig_info (macN_len key text)
      have how := z32_size (macN_len key text)
      have haw := byts_all (macN key text)
      have HRUN := Lib.hid (fun W => z32_run W)
      have HE := Lib.hid (fun W => dig_eql (macN_len key text) (macN_len key text) W)
      have HNE := Lib.hid (fun W => dig_neq (macN_len key text) (macN_len key text) W)
      rw [decide_eq_true rfl] at HE HNE
      have HM := Lib.hid (fun W g k (hf : Fr0 w W) (v : Value) (h : RdB W v k) (hl : k.length ≤ 900000) (hb : Blk W g #[.slice At nt ct] 22) => mof_at h hl ((HTE.out).fr0 hf) HT9.out hb)
      have HM5 := Lib.hid (fun W (hf : Fr0 w W) => show Calls Try.prog 8 #[.slice Ak nk ck, .slice (some ⟨W.heap.size, 0, none⟩) 1 1] (W.alloc (.cells #[.slice At nt ct] 22)) (fun e w' => e = .returned (.agg (byts (macN key text)).toArray) ∧ Fr0 (W.alloc (.cells #[.slice At nt ct] 22)) w') from
        HM.out _ _ _ (hf.alloc _) _ ((HKE.out).fr0 (hf.alloc _)) HK9.out (Blk.new W _ _))
      obtain ⟨sw, hsw⟩ : ∃ s, s = (byts (macN key text)).toArray := ⟨_, rfl⟩
      obtain ⟨z32, hz32⟩ : ∃ z, z = z32A := ⟨_, rfl⟩
      rw [← hsw] at hiw how haw HE HNE HM5
      rw [← hz32] at HRUN how
      have HSW := Lib.hid hsw
      have HIW := Lib.hid hiw
      have HOW := Lib.hid how
      have HZ32 := Lib.hid hz32
      clear hsw hiw how hz32
      by_cases hgt : 64 < nk
      · have hSd := Lib.hid (fun (W : World) (hf : Fr0 w W) => show Calls Try.prog 11 #[.slice (some ⟨W.heap.size, 0, none⟩) 1 1] (W.alloc (.cells #[.slice Ak nk ck] 22)) (fun e w' => e = .returned (.agg (byts (shaN key)).toArray) ∧ Fr0 (W.alloc (.cells #[.slice Ak nk ck] 22)) w') from
          sum_at1 ((HKE.out).fr0 (hf.alloc _)) HK9.out (Blk.new W _ _))
        have hi8 := dig_info (sha_len key)
        have ho8 := z32_size (sha_len key)
        have ha8 := byts_all (shaN key)
        rw [← HZ32.out] at ho8
        obtain ⟨s8, hs8⟩ : ∃ s, s = (byts (shaN key)).toArray := ⟨_, rfl⟩
        rw [← hs8] at hSd hi8 ho8 ha8
        have HS8 := Lib.hid hs8
        have HI8 := Lib.hid hi8
        have HO8 := Lib.hid ho8
        have hgi : (64 : Int) < (nk : Int) := by omega
        clear hs8 hi8 ho8
        go_enter Try.func5, Try.ntmps5
        go_upto_region 8 with (first
          | (go_at_call 7; refine (HKN.out _).mono ?_; rintro e w1 ⟨rfl, hf⟩; have F1 := Lib.hid hf; clear hf)
          | (go_at_call 8; refine (HM5.out _ F1.out).mono ?_; rintro e w2 ⟨rfl, hf⟩; have F2 := Lib.hid (Fr0.trans ((F1.out).alloc _) hf); clear hf)
          | (go_at_call 11; refine (hSd.out _ F4.out).mono ?_; rintro e w5 ⟨rfl, hf⟩; have B5 := Lib.hid (((B4.out).alloc _).fr0 hf); have F5 := Lib.hid (Fr0.trans ((F4.out).alloc _) hf); clear hf)
          | (have _q := F5; refine list_alloc_blk rfl 25 rfl z32 HRUN.out ?_; intro g8 w6 hB hF hl; have C6 := Lib.hid hB; have B6 := Lib.hid ((B5.out).fr0 hF); have F6 := Lib.hid (Fr0.trans F5.out hF); have L8 := Lib.hid hl; clear hB hF hl)
          | (refine list_alloc_blk rfl 25 rfl z32 HRUN.out ?_; intro g7 w3 hB hF hl; have B3 := Lib.hid hB; have F3 := Lib.hid (Fr0.trans F2.out hF); have L7 := Lib.hid (Nat.le_trans (F2.out).size hl); clear hB hF hl)
          | (have _q := F6; refine list_store_blk rfl 25 _ _ rfl g8 s8 rfl rfl 25 z32 C6.out HI8.out HO8.out ha8 ?_; intro w7 hB hF; have C7 := Lib.hid hB; have B7b := Lib.hid ((B6.out).fr1 hF (fun e => by have := (B5.out).lt; have := L8.out; omega)); have F7 := Lib.hid (Fr0.new F6.out hF (by have := (F5.out).size; have := L8.out; omega)); clear hB hF)
          | (refine list_store_blk rfl 25 _ _ rfl g7 sw rfl rfl 25 z32 B3.out HIW.out HOW.out haw ?_; intro w4 hB hF; have B4 := Lib.hid hB; have F4 := Lib.hid (Fr0.new F3.out hF L7.out); clear hB hF))
        obtain ⟨wa, hwa⟩ : ∃ x, x = w7.drew := ⟨_, rfl⟩
        have B7 := Lib.hid (show Blk wa g7 sw 25 from by rw [hwa]; exact Blk.drew B7b.out)
        have C8 := Lib.hid (show Blk wa g8 s8 25 from by rw [hwa]; exact Blk.drew C7.out)
        have FA := Lib.hid (show Fr0 w wa from by rw [hwa]; exact Fr0.drew F7.out)
        have UF := Lib.hid (show Fr0 wa w7.drew from by rw [hwa]; exact Fr0.refl _)
        have HM8 := Lib.hid (fun (W : World) (g : Nat) (hf : Fr0 wa W) (hb : Blk W g #[.slice At nt ct] 22) => show Calls Try.prog 8 #[.slice (some ⟨g8, 0, none⟩) 32 32, .slice (some ⟨g, 0, none⟩) 1 1] W (fun e w' => e = .returned (.agg sw) ∧ Fr0 W w') from by
          rw [HSW.out, ← macN_dig (key := key) (by rw [HNK.out]; exact hgt)]
          have h8 := (C8.out).fr0 hf
          rw [HS8.out] at h8
          exact HM.out _ _ _ (Fr0.trans FA.out hf) _ (rd64 h8 (sha_len key) (by decide)) (by rw [sha_len]; decide) hb)
        clear hwa
        refine wp_region_held_drew (S := (fun W => Fr0 wa W)) (by kernel_rfl) UF.out (fun hHeld => ?_)
        have _hI : True := trivial
        clear _hI
        refine takeH (i := 0) rfl (by kernel_rfl) (by kernel_rfl) (by kernel_rfl) (fun _ _ _ h => h) (v := .slice (some ⟨g8, 0, none⟩) 32 32) (.inl ⟨rfl, fun W hW => (by go_simp; try rfl)⟩) UF.out ?_
        try simp only [Act.put, List.setIfInBounds_toArray, List.set_cons_zero, List.set_cons_succ]
        have _hI : True := trivial
        clear _hI
        refine takeH (i := 1) rfl (by kernel_rfl) (by kernel_rfl) (by kernel_rfl) (fun _ _ _ h => h) (.inl ⟨rfl, fun W hW => (by go_simp; try rfl)⟩) UF.out ?_
        try simp only [Act.put, List.setIfInBounds_toArray, List.set_cons_zero, List.set_cons_succ]
        have _hI : True := trivial
        clear _hI
        refine takeH (i := 4) rfl (by kernel_rfl) (by kernel_rfl) (by kernel_rfl) (fun _ _ _ h => h) (yields_load_blk rfl 25 _ rfl g7 rfl 25 sw (fun W hW => (B7.out).fr0 hW) _ Try.underlying25 rfl HIW.out) UF.out ?_
        try simp only [Act.put, List.setIfInBounds_toArray, List.set_cons_zero, List.set_cons_succ]
        have _hI : True := trivial
        clear _hI
        refine wpAnyH_ready (rs := [2]) (by kernel_rfl) (by simp) (consG rfl rfl (fun K hK => ?_) AllReadyH.nil)
        have _hI : True := trivial
        clear _hI
        refine wp_built_blk 23 22 _ _ rfl #[.slice At nt ct] (fun W => by go_simp; try rfl) ?_
        intro gb Wn hB hf hg
        replace UF := Lib.hid (Fr0.trans UF.out hf)
        have GB := Lib.hid hB
        clear hB hf hg
        refine hK.out _ _ UF.out ?_
        clear hK
        try simp only [Act.put, List.setIfInBounds_toArray, List.set_cons_zero, List.set_cons_succ]
        have _hI : True := trivial
        clear _hI
        refine wpAnyH_ready (rs := [3]) (by kernel_rfl) (by simp) (consG rfl rfl (fun K hK => ?_) AllReadyH.nil)
        have _hI : True := trivial
        clear _hI
        go_simp
        refine (HM8.out _ _ UF.out GB.out).mono ?_
        rintro e Wn ⟨rfl, hf⟩
        replace UF := Lib.hid (Fr0.trans UF.out hf)
        clear hf
        refine hK.out _ _ UF.out ?_
        clear hK
        try simp only [Act.put, List.setIfInBounds_toArray, List.set_cons_zero, List.set_cons_succ]
        have _hI : True := trivial
        clear _hI
        refine takeH (i := 5) rfl (by kernel_rfl) (by kernel_rfl) (by kernel_rfl) (fun _ _ _ h => h) (v := .bool true) (.inl ⟨rfl, fun W hW => bin_run rfl rfl rfl (dig_guard _ _ _ _ _ W) (HE.out W)⟩) UF.out ?_
        try simp only [Act.put, List.setIfInBounds_toArray, List.set_cons_zero, List.set_cons_succ]
        have _hI : True := trivial
        clear _hI
        refine takeH (i := 6) rfl (by kernel_rfl) (by kernel_rfl) (by kernel_rfl) (fun _ _ _ h => h) (.inl ⟨rfl, fun W hW => (by go_simp; try rfl)⟩) UF.out ?_
        try simp only [Act.put, List.setIfInBounds_toArray, List.set_cons_zero, List.set_cons_succ]
        refine wpAnyH_done (by kernel_rfl) ?_ _
        go_wp2_with fail
        go_ret
        exact ⟨rfl, Fr0.trans FA.out UF.out⟩

      · have hle : nk ≤ 64 := by omega
        have HLE := Lib.hid hle
        have HM10 := Lib.hid (fun (wa W : World) (g : Nat) (m : Nat) (v : Value) (hFA : Fr0 w wa) (hm : nk + m ≤ 64) (hf : Fr0 wa W) (h : RdB W v (key ++ List.replicate m 0)) (hb : Blk W g #[.slice At nt ct] 22) => show Calls Try.prog 8 #[v, .slice (some ⟨g, 0, none⟩) 1 1] W (fun e w' => e = .returned (.agg sw) ∧ Fr0 W w') from by
          rw [HSW.out, ← macN_zeros (key := key) (m := m) (by rw [HNK.out]; exact hm)]
          exact HM.out _ _ _ (Fr0.trans hFA hf) _ h (by rw [List.length_append, List.length_replicate, HNK.out]; omega) hb)
        have hgi : (nk : Int) ≤ 64 := by omega
        go_enter Try.func5, Try.ntmps5
        go_upto_region 9 with (first
          | (go_at_call 7; refine (HKN.out _).mono ?_; rintro e w1 ⟨rfl, hf⟩; have F1 := Lib.hid hf; clear hf)
          | (go_at_call 8; refine (HM5.out _ F1.out).mono ?_; rintro e w2 ⟨rfl, hf⟩; have F2 := Lib.hid (Fr0.trans ((F1.out).alloc _) hf); clear hf)
          | (refine list_alloc_blk rfl 25 rfl z32 HRUN.out ?_; intro g7 w3 hB hF hl; have B3 := Lib.hid hB; have F3 := Lib.hid (Fr0.trans F2.out hF); have L7 := Lib.hid (Nat.le_trans (F2.out).size hl); clear hB hF hl)
          | (refine list_store_blk rfl 25 _ _ rfl g7 sw rfl rfl 25 z32 B3.out HIW.out HOW.out haw ?_; intro w4 hB hF; have B4 := Lib.hid hB; have F4 := Lib.hid (Fr0.new F3.out hF L7.out); clear hB hF))
        have HGX := Lib.hid (show decide (0 ≤ more ∧ more ≤ 64 - (nk : Int)) = decide (0 ≤ more ∧ more ≤ 64 - (nk : Int)) from rfl)
        obtain ⟨gx, hgx⟩ : ∃ b, b = decide (0 ≤ more ∧ more ≤ 64 - (nk : Int)) := ⟨_, rfl⟩
        replace HGX := Lib.hid hgx
        clear hgx
        go_cut [48] (fun s wx => s = .bool gx ∧ w4 = wx)
        case first =>
          by_cases h1 : 0 ≤ more
          · by_cases h2 : more ≤ 64 - (nk : Int)
            · have DU := Lib.hid (HGX.out.trans (decide_eq_true ⟨h1, h2⟩))
              go_wp2_with fail
              go_meet
              exact ⟨by rw [DU.out], rfl⟩
            · have DU := Lib.hid (HGX.out.trans (decide_eq_false (fun h => h2 h.2)))
              go_wp2_with fail
              go_meet
              exact ⟨by rw [DU.out], rfl⟩
          · have DU := Lib.hid (HGX.out.trans (decide_eq_false (fun h => h1 h.1)))
            go_wp2_with fail
            go_meet
            exact ⟨by rw [DU.out], rfl⟩
        case rest =>
        obtain ⟨rfl, rfl⟩ := hcut
        go_upto_if 48 with (fail)
        go_cut [] (fun wx => Fr0 w wx ∧ Blk wx g7 sw 25)
        case first =>
          cases gx with
          | false =>
            go_wp2_with fail
            go_meet
            exact ⟨F4.out, B4.out⟩
          | true =>
            have hdec := of_decide_eq_true HGX.out.symm
            obtain ⟨mo, rfl⟩ : ∃ m : Nat, more = m := ⟨more.toNat, by omega⟩
            have hmo : nk + mo ≤ 64 := by omega
            clear hdec HGX
            go_wp2_with fail
            obtain ⟨wa, hwa⟩ : ∃ x, x = w4.drew := ⟨_, rfl⟩
            have B7 := Lib.hid (show Blk wa g7 sw 25 from by rw [hwa]; exact Blk.drew B4.out)
            have FA := Lib.hid (show Fr0 w wa from by rw [hwa]; exact Fr0.drew F4.out)
            have UF := Lib.hid (show Fr0 wa w4.drew from by rw [hwa]; exact Fr0.refl _)
            replace HKE := Lib.hid ((HKE.out).fr0 FA.out)
            replace HM10 := Lib.hid (fun W g v (hf : Fr0 wa W) (h : RdB W v (key ++ List.replicate mo 0)) (hb : Blk W g #[.slice At nt ct] 22) => HM10.out wa W g mo v FA.out hmo hf h hb)
            clear hwa
            refine wp_region_held_drew (S := (fun W => Fr0 wa W)) (by kernel_rfl) UF.out (fun hHeld => ?_)
            have _hI : True := trivial
            clear _hI
            refine takeH (i := 1) rfl (by kernel_rfl) (by kernel_rfl) (by kernel_rfl) (fun _ _ _ h => h) (.inl ⟨rfl, fun W hW => (by go_simp; try rfl)⟩) UF.out ?_
            try simp only [Act.put, List.setIfInBounds_toArray, List.set_cons_zero, List.set_cons_succ]
            have _hI : True := trivial
            clear _hI
            refine takeH (i := 3) rfl (by kernel_rfl) (by kernel_rfl) (by kernel_rfl) (fun _ _ _ h => h) (.inl ⟨rfl, fun W hW => (by go_simp; try rfl)⟩) UF.out ?_
            try simp only [Act.put, List.setIfInBounds_toArray, List.set_cons_zero, List.set_cons_succ]
            have _hI : True := trivial
            clear _hI
            refine takeH (i := 5) rfl (by kernel_rfl) (by kernel_rfl) (by kernel_rfl) (fun _ _ _ h => h) (.inl ⟨rfl, fun W hW => (by go_simp; try rfl)⟩) UF.out ?_
            try simp only [Act.put, List.setIfInBounds_toArray, List.set_cons_zero, List.set_cons_succ]
            have _hI : True := trivial
            clear _hI
            refine takeH (i := 8) rfl (by kernel_rfl) (by kernel_rfl) (by kernel_rfl) (fun _ _ _ h => h) (yields_load_blk rfl 25 _ rfl g7 rfl 25 sw (fun W hW => (B7.out).fr0 hW) _ Try.underlying25 rfl HIW.out) UF.out ?_
            try simp only [Act.put, List.setIfInBounds_toArray, List.set_cons_zero, List.set_cons_succ]
            have _hI : True := trivial
            clear _hI
            refine wpAnyH_ready (rs := [0, 6]) (by kernel_rfl) (by simp) (consG rfl rfl (fun K hK => ?_) (consG rfl rfl (fun K hK => ?_) AllReadyH.nil))
            ·
              have _hI : True := trivial
              clear _hI
              refine wp_built_blk 22 5 _ _ rfl #[] (fun W => by go_simp; try rfl) ?_
              intro ge Wn hB hf hg
              have EB := Lib.hid (And.intro hB (Nat.le_trans (UF.out).size hg))
              replace UF := Lib.hid (Fr0.trans UF.out hf)
              clear hB hf hg
              refine hK.out _ _ UF.out ?_
              clear hK
              try simp only [Act.put, List.setIfInBounds_toArray, List.set_cons_zero, List.set_cons_succ]
              have _hI : True := trivial
              clear _hI
              refine wpAnyH_ready (rs := [2, 6]) (by kernel_rfl) (by simp) (consG rfl rfl (fun K hK => ?_) (consG rfl rfl (fun K hK => ?_) AllReadyH.nil))
              ·
                have _hI : True := trivial
                clear _hI
                refine wp_append_own (base := wa.heap.size) (n := 0) (d := []) (e := key) _ _ rfl (UF.out).size (own_empty (size := 1) (EB.out).1 (EB.out).2) rfl ((HKE.out).fr0 UF.out) rfl (by rw [HNK.out]; omega) ?_
                intro A5 c5 w5 hO hF
                rw [show 0 + key.length = nk from by rw [HNK.out]; exact Nat.zero_add _] at hO ⊢
                replace UF := Lib.hid (Fr.then UF.out hF (fun i hi hl => by have h2 : (some ge : Option Nat) = some i := hi; injection h2 with h2; have := (EB.out).2; omega))
                have KO := Lib.hid (show w5.ownsRow wa.heap.size 5 1 (.slice A5 nk c5) nk (byts key) from hO)
                clear hO hF
                refine hK.out _ _ UF.out ?_
                clear hK
                try simp only [Act.put, List.setIfInBounds_toArray, List.set_cons_zero, List.set_cons_succ]
                have _hI : True := trivial
                clear _hI
                refine wpAnyH_ready (rs := [4, 6]) (by kernel_rfl) (by simp) (consG rfl rfl (fun K hK => ?_) (consG rfl rfl (fun K hK => ?_) AllReadyH.nil))
                ·
                  have _hI : True := trivial
                  clear _hI
                  refine wp_append_zeros (base := wa.heap.size) (m := mo) (d := key) _ _ rfl (UF.out).size KO.out rfl rfl (by omega) ?_
                  intro A6 c6 w6 hO hF
                  replace UF := Lib.hid (Fr.then UF.out hF (fun i hi hl => by have := (own_lt' KO.out i hi).1; omega))
                  have ZO := Lib.hid hO
                  clear hO hF
                  refine hK.out _ _ UF.out ?_
                  clear hK
                  try simp only [Act.put, List.setIfInBounds_toArray, List.set_cons_zero, List.set_cons_succ]
                  have _hI : True := trivial
                  clear _hI
                  refine wpAnyH_ready (rs := [6]) (by kernel_rfl) (by simp) (consG rfl rfl (fun K hK => ?_) AllReadyH.nil)
                  have _hI : True := trivial
                  clear _hI
                  refine wp_built_blk 23 22 _ _ rfl #[.slice At nt ct] (fun W => by go_simp; try rfl) ?_
                  intro gb Wn hB hf hg
                  replace UF := Lib.hid (Fr0.trans UF.out hf)
                  have GB := Lib.hid hB
                  replace ZO := Lib.hid (own_fr ZO.out hf (fun _ _ h => h))
                  clear hB hf hg
                  refine hK.out _ _ UF.out ?_
                  clear hK
                  try simp only [Act.put, List.setIfInBounds_toArray, List.set_cons_zero, List.set_cons_succ]
                  have _hI : True := trivial
                  clear _hI
                  refine wpAnyH_ready (rs := [7]) (by kernel_rfl) (by simp) (consG rfl rfl (fun K hK => ?_) AllReadyH.nil)
                  have _hI : True := trivial
                  clear _hI
                  go_simp
                  refine (HM10.out _ _ _ UF.out (rdz_of ZO.out (by rw [List.length_append, List.length_replicate, HNK.out])) GB.out).mono ?_
                  rintro e Wn ⟨rfl, hf⟩
                  replace UF := Lib.hid (Fr0.trans UF.out hf)
                  clear hf
                  refine hK.out _ _ UF.out ?_
                  clear hK
                  try simp only [Act.put, List.setIfInBounds_toArray, List.set_cons_zero, List.set_cons_succ]
                  have _hI : True := trivial
                  clear _hI
                  refine takeH (i := 9) rfl (by kernel_rfl) (by kernel_rfl) (by kernel_rfl) (fun _ _ _ h => h) (v := .bool false) (.inl ⟨rfl, fun W hW => bin_run rfl rfl rfl (dig_guard _ _ _ _ _ W) (HNE.out W)⟩) UF.out ?_
                  try simp only [Act.put, List.setIfInBounds_toArray, List.set_cons_zero, List.set_cons_succ]
                  refine wpAnyH_done (by kernel_rfl) ?_ _
                  go_wp2_with fail
                  go_meet
                  exact ⟨Fr0.trans FA.out UF.out, (B7.out).fr0 UF.out⟩
                ·
                  have _hI : True := trivial
                  clear _hI
                  refine wp_built_blk 23 22 _ _ rfl #[.slice At nt ct] (fun W => by go_simp; try rfl) ?_
                  intro gb Wn hB hf hg
                  replace UF := Lib.hid (Fr0.trans UF.out hf)
                  have GB := Lib.hid hB
                  replace KO := Lib.hid (own_fr KO.out hf (fun _ _ h => h))
                  clear hB hf hg
                  refine hK.out _ _ UF.out ?_
                  clear hK
                  try simp only [Act.put, List.setIfInBounds_toArray, List.set_cons_zero, List.set_cons_succ]
                  have _hI : True := trivial
                  clear _hI
                  refine wpAnyH_ready (rs := [4]) (by kernel_rfl) (by simp) (consG rfl rfl (fun K hK => ?_) AllReadyH.nil)
                  have _hI : True := trivial
                  clear _hI
                  refine wp_append_zeros (base := wa.heap.size) (m := mo) (d := key) _ _ rfl (UF.out).size KO.out rfl rfl (by omega) ?_
                  intro A6 c6 w6 hO hF
                  replace GB := Lib.hid ((GB.out).fr hF (fun hk => own_ne KO.out GB.out (by decide) _ hk rfl))
                  replace UF := Lib.hid (Fr.then UF.out hF (fun i hi hl => by have := (own_lt' KO.out i hi).1; omega))
                  have ZO := Lib.hid hO
                  clear hO hF
                  refine hK.out _ _ UF.out ?_
                  clear hK
                  try simp only [Act.put, List.setIfInBounds_toArray, List.set_cons_zero, List.set_cons_succ]
                  have _hI : True := trivial
                  clear _hI
                  refine wpAnyH_ready (rs := [7]) (by kernel_rfl) (by simp) (consG rfl rfl (fun K hK => ?_) AllReadyH.nil)
                  have _hI : True := trivial
                  clear _hI
                  go_simp
                  refine (HM10.out _ _ _ UF.out (rdz_of ZO.out (by rw [List.length_append, List.length_replicate, HNK.out])) GB.out).mono ?_
                  rintro e Wn ⟨rfl, hf⟩
                  replace UF := Lib.hid (Fr0.trans UF.out hf)
                  clear hf
                  refine hK.out _ _ UF.out ?_
                  clear hK
                  try simp only [Act.put, List.setIfInBounds_toArray, List.set_cons_zero, List.set_cons_succ]
                  have _hI : True := trivial
                  clear _hI
                  refine takeH (i := 9) rfl (by kernel_rfl) (by kernel_rfl) (by kernel_rfl) (fun _ _ _ h => h) (v := .bool false) (.inl ⟨rfl, fun W hW => bin_run rfl rfl rfl (dig_guard _ _ _ _ _ W) (HNE.out W)⟩) UF.out ?_
                  try simp only [Act.put, List.setIfInBounds_toArray, List.set_cons_zero, List.set_cons_succ]
                  refine wpAnyH_done (by kernel_rfl) ?_ _
                  go_wp2_with fail
                  go_meet
                  exact ⟨Fr0.trans FA.out UF.out, (B7.out).fr0 UF.out⟩
              ·
                have _hI : True := trivial
                clear _hI
                refine wp_built_blk 23 22 _ _ rfl #[.slice At nt ct] (fun W => by go_simp; try rfl) ?_
                intro gb Wn hB hf hg
                replace UF := Lib.hid (Fr0.trans UF.out hf)
                have GB := Lib.hid hB
                replace EB := Lib.hid (And.intro ((EB.out).1.fr0 hf) (EB.out).2)
                clear hB hf hg
                refine hK.out _ _ UF.out ?_
                clear hK
                try simp only [Act.put, List.setIfInBounds_toArray, List.set_cons_zero, List.set_cons_succ]
                have _hI : True := trivial
                clear _hI
                refine wpAnyH_ready (rs := [2]) (by kernel_rfl) (by simp) (consG rfl rfl (fun K hK => ?_) AllReadyH.nil)
                have _hI : True := trivial
                clear _hI
                refine wp_append_own (base := wa.heap.size) (n := 0) (d := []) (e := key) _ _ rfl (UF.out).size (own_empty (size := 1) (EB.out).1 (EB.out).2) rfl ((HKE.out).fr0 UF.out) rfl (by rw [HNK.out]; omega) ?_
                intro A5 c5 w5 hO hF
                rw [show 0 + key.length = nk from by rw [HNK.out]; exact Nat.zero_add _] at hO ⊢
                replace GB := Lib.hid ((GB.out).fr hF (fun hk => by cases hk; exact ((EB.out).1).ne GB.out (by decide) rfl))
                replace UF := Lib.hid (Fr.then UF.out hF (fun i hi hl => by have h2 : (some ge : Option Nat) = some i := hi; injection h2 with h2; have := (EB.out).2; omega))
                have KO := Lib.hid (show w5.ownsRow wa.heap.size 5 1 (.slice A5 nk c5) nk (byts key) from hO)
                clear hO hF
                refine hK.out _ _ UF.out ?_
                clear hK
                try simp only [Act.put, List.setIfInBounds_toArray, List.set_cons_zero, List.set_cons_succ]
                have _hI : True := trivial
                clear _hI
                refine wpAnyH_ready (rs := [4]) (by kernel_rfl) (by simp) (consG rfl rfl (fun K hK => ?_) AllReadyH.nil)
                have _hI : True := trivial
                clear _hI
                refine wp_append_zeros (base := wa.heap.size) (m := mo) (d := key) _ _ rfl (UF.out).size KO.out rfl rfl (by omega) ?_
                intro A6 c6 w6 hO hF
                replace GB := Lib.hid ((GB.out).fr hF (fun hk => own_ne KO.out GB.out (by decide) _ hk rfl))
                replace UF := Lib.hid (Fr.then UF.out hF (fun i hi hl => by have := (own_lt' KO.out i hi).1; omega))
                have ZO := Lib.hid hO
                clear hO hF
                refine hK.out _ _ UF.out ?_
                clear hK
                try simp only [Act.put, List.setIfInBounds_toArray, List.set_cons_zero, List.set_cons_succ]
                have _hI : True := trivial
                clear _hI
                refine wpAnyH_ready (rs := [7]) (by kernel_rfl) (by simp) (consG rfl rfl (fun K hK => ?_) AllReadyH.nil)
                have _hI : True := trivial
                clear _hI
                go_simp
                refine (HM10.out _ _ _ UF.out (rdz_of ZO.out (by rw [List.length_append, List.length_replicate, HNK.out])) GB.out).mono ?_
                rintro e Wn ⟨rfl, hf⟩
                replace UF := Lib.hid (Fr0.trans UF.out hf)
                clear hf
                refine hK.out _ _ UF.out ?_
                clear hK
                try simp only [Act.put, List.setIfInBounds_toArray, List.set_cons_zero, List.set_cons_succ]
                have _hI : True := trivial
                clear _hI
                refine takeH (i := 9) rfl (by kernel_rfl) (by kernel_rfl) (by kernel_rfl) (fun _ _ _ h => h) (v := .bool false) (.inl ⟨rfl, fun W hW => bin_run rfl rfl rfl (dig_guard _ _ _ _ _ W) (HNE.out W)⟩) UF.out ?_
                try simp only [Act.put, List.setIfInBounds_toArray, List.set_cons_zero, List.set_cons_succ]
                refine wpAnyH_done (by kernel_rfl) ?_ _
                go_wp2_with fail
                go_meet
                exact ⟨Fr0.trans FA.out UF.out, (B7.out).fr0 UF.out⟩
            ·
              have _hI : True := trivial
              clear _hI
              refine wp_built_blk 23 22 _ _ rfl #[.slice At nt ct] (fun W => by go_simp; try rfl) ?_
              intro gb Wn hB hf hg
              replace UF := Lib.hid (Fr0.trans UF.out hf)
              have GB := Lib.hid hB
              clear hB hf hg
              refine hK.out _ _ UF.out ?_
              clear hK
              try simp only [Act.put, List.setIfInBounds_toArray, List.set_cons_zero, List.set_cons_succ]
              have _hI : True := trivial
              clear _hI
              refine wpAnyH_ready (rs := [0]) (by kernel_rfl) (by simp) (consG rfl rfl (fun K hK => ?_) AllReadyH.nil)
              have _hI : True := trivial
              clear _hI
              refine wp_built_blk 22 5 _ _ rfl #[] (fun W => by go_simp; try rfl) ?_
              intro ge Wn hB hf hg
              have EB := Lib.hid (And.intro hB (Nat.le_trans (UF.out).size hg))
              replace UF := Lib.hid (Fr0.trans UF.out hf)
              replace GB := Lib.hid ((GB.out).fr0 hf)
              clear hB hf hg
              refine hK.out _ _ UF.out ?_
              clear hK
              try simp only [Act.put, List.setIfInBounds_toArray, List.set_cons_zero, List.set_cons_succ]
              have _hI : True := trivial
              clear _hI
              refine wpAnyH_ready (rs := [2]) (by kernel_rfl) (by simp) (consG rfl rfl (fun K hK => ?_) AllReadyH.nil)
              have _hI : True := trivial
              clear _hI
              refine wp_append_own (base := wa.heap.size) (n := 0) (d := []) (e := key) _ _ rfl (UF.out).size (own_empty (size := 1) (EB.out).1 (EB.out).2) rfl ((HKE.out).fr0 UF.out) rfl (by rw [HNK.out]; omega) ?_
              intro A5 c5 w5 hO hF
              rw [show 0 + key.length = nk from by rw [HNK.out]; exact Nat.zero_add _] at hO ⊢
              replace GB := Lib.hid ((GB.out).fr hF (fun hk => by cases hk; exact ((EB.out).1).ne GB.out (by decide) rfl))
              replace UF := Lib.hid (Fr.then UF.out hF (fun i hi hl => by have h2 : (some ge : Option Nat) = some i := hi; injection h2 with h2; have := (EB.out).2; omega))
              have KO := Lib.hid (show w5.ownsRow wa.heap.size 5 1 (.slice A5 nk c5) nk (byts key) from hO)
              clear hO hF
              refine hK.out _ _ UF.out ?_
              clear hK
              try simp only [Act.put, List.setIfInBounds_toArray, List.set_cons_zero, List.set_cons_succ]
              have _hI : True := trivial
              clear _hI
              refine wpAnyH_ready (rs := [4]) (by kernel_rfl) (by simp) (consG rfl rfl (fun K hK => ?_) AllReadyH.nil)
              have _hI : True := trivial
              clear _hI
              refine wp_append_zeros (base := wa.heap.size) (m := mo) (d := key) _ _ rfl (UF.out).size KO.out rfl rfl (by omega) ?_
              intro A6 c6 w6 hO hF
              replace GB := Lib.hid ((GB.out).fr hF (fun hk => own_ne KO.out GB.out (by decide) _ hk rfl))
              replace UF := Lib.hid (Fr.then UF.out hF (fun i hi hl => by have := (own_lt' KO.out i hi).1; omega))
              have ZO := Lib.hid hO
              clear hO hF
              refine hK.out _ _ UF.out ?_
              clear hK
              try simp only [Act.put, List.setIfInBounds_toArray, List.set_cons_zero, List.set_cons_succ]
              have _hI : True := trivial
              clear _hI
              refine wpAnyH_ready (rs := [7]) (by kernel_rfl) (by simp) (consG rfl rfl (fun K hK => ?_) AllReadyH.nil)
              have _hI : True := trivial
              clear _hI
              go_simp
              refine (HM10.out _ _ _ UF.out (rdz_of ZO.out (by rw [List.length_append, List.length_replicate, HNK.out])) GB.out).mono ?_
              rintro e Wn ⟨rfl, hf⟩
              replace UF := Lib.hid (Fr0.trans UF.out hf)
              clear hf
              refine hK.out _ _ UF.out ?_
              clear hK
              try simp only [Act.put, List.setIfInBounds_toArray, List.set_cons_zero, List.set_cons_succ]
              have _hI : True := trivial
              clear _hI
              refine takeH (i := 9) rfl (by kernel_rfl) (by kernel_rfl) (by kernel_rfl) (fun _ _ _ h => h) (v := .bool false) (.inl ⟨rfl, fun W hW => bin_run rfl rfl rfl (dig_guard _ _ _ _ _ W) (HNE.out W)⟩) UF.out ?_
              try simp only [Act.put, List.setIfInBounds_toArray, List.set_cons_zero, List.set_cons_succ]
              refine wpAnyH_done (by kernel_rfl) ?_ _
              go_wp2_with fail
              go_meet
              exact ⟨Fr0.trans FA.out UF.out, (B7.out).fr0 UF.out⟩
        case rest =>
        obtain ⟨hf, hb⟩ := hcut
        have F4 := Lib.hid hf
        have B4 := Lib.hid hb
        clear hf hb HGX
        have H54 := Lib.hid (blockN_len key 54)
        have H92 := Lib.hid (blockN_len key 92)
        have HA54 := Lib.hid (fun i (h : i < 64) => blockN_at key 54 i h)
        have HA92 := Lib.hid (fun i (h : i < 64) => blockN_at key 92 i h)
        have HP0 := Lib.hid (fun i (h1 : nk ≤ i) (h2 : i < 64) => show (padK key).getD i 0 = 0 from by
          have hkn : (keyN key) = key := keyN_small (by rw [HNK.out]; exact HLE.out)
          unfold padK
          rw [hkn]
          simp only [List.getD, List.getElem?_append_right (show key.length ≤ i by rw [HNK.out]; exact h1), List.getElem?_replicate]
          split <;> rfl)
        have HP1 := Lib.hid (fun i (h1 : i < key.length) => show (padK key).getD i 0 = key[i] from by
          have hkn : (keyN key) = key := keyN_small (by rw [HNK.out]; exact HLE.out)
          unfold padK
          rw [hkn]
          simp [List.getD, List.getElem?_append_left h1, h1])
        have HMW := Lib.hid (show macN key text = shaN (blockN key 92 ++ shaN (blockN key 54 ++ text)) from rfl)
        obtain ⟨b54, hb54⟩ : ∃ b, b = blockN key 54 := ⟨_, rfl⟩
        obtain ⟨b92, hb92⟩ : ∃ b, b = blockN key 92 := ⟨_, rfl⟩
        rw [← hb54] at H54 HA54 HMW
        rw [← hb92] at H92 HA92 HMW
        clear hb54 hb92
        go_wp2_with fail
        go_loopw [9, 10, 11] (fun v9 v10 v11 wr => ∃ (i ci co : Nat) (Ai Ao : Option Addr), i ≤ 64 ∧ v11 = .int .i64 i ∧ v9 = .slice Ai i ci ∧ v10 = .slice Ao i co ∧ SlO w.heap.size wr (.slice Ai i ci) (b54.take i) ∧ SlO w.heap.size wr (.slice Ao i co) (b92.take i) ∧ Hid (∀ j, inBlk (.slice Ai i ci) j → ¬ inBlk (.slice Ao i co) j) ∧ Blk wr g7 sw 25 ∧ Fr0 w wr) (fun _ _ v11 _ => 64 - (intOf v11).toNat)
        case atStart => exact ⟨0, 0, 0, none, none, by omega, rfl, rfl, rfl, SlO.nil _ _, SlO.nil _ _, Lib.hid (fun j hj => by cases hj), B4.out, F4.out⟩
        case round =>
          obtain ⟨i, ci, co, Ai, Ao, hi, rfl, rfl, rfl, hI, hO, hD, hB, hF⟩ := hrel
          have i0 : (0 : Int) ≤ (i : Int) := by omega
          have KI := Lib.hid hI
          have KO := Lib.hid hO
          have KB := Lib.hid hB
          have KF := Lib.hid hF
          clear hI hO hB hF
          by_cases hlt : i < 64
          · have LI := Lib.hid (show (b54.take i).length = i by rw [List.length_take, H54.out]; omega)
            have LO := Lib.hid (show (b92.take i).length = i by rw [List.length_take, H92.out]; omega)
            have T54 := Lib.hid (show b54.take (i + 1) = b54.take i ++ [b54.getD i 0] by rw [List.take_add_one, show b54[i]? = some (b54.getD i 0) from by simp [List.getD, H54.out, hlt]]; rfl)
            have T92 := Lib.hid (show b92.take (i + 1) = b92.take i ++ [b92.getD i 0] by rw [List.take_add_one, show b92[i]? = some (b92.getD i 0) from by simp [List.getD, H92.out, hlt]]; rfl)
            have E54 := (HA54.out) i hlt
            have E92 := (HA92.out) i hlt
            have i1 : (i : Int) < 64 := by omega
            by_cases hik : i < nk
            · have hik2 : i < key.length := by rw [HNK.out]; exact hik
              have i2 : (i : Int) < (nk : Int) := by omega
              rw [(HP1.out) i hik2] at E54 E92
              obtain ⟨gk, ok, ck', hvk, hck, _, dk⟩ := (show RdB w (.slice Ak key.length ck) key from by rw [HNK.out]; exact HKE.out).cell hik2
              injection hvk with hA1 _ hA2
              have dkw := (KF.out).cell dk
              have x54 := xor_u8 key[i] 54
              have x92 := xor_u8 key[i] 92
              rw [← E54] at x54
              rw [← E92] at x92
              obtain ⟨pk, hpk⟩ : ∃ p, p = key[i] := ⟨_, rfl⟩
              rw [← hpk] at dkw x54 x92
              replace x54 : bits .xor .u8 (pk.toNat : Int) 54 = ((b54.getD i 0).toNat : Int) := x54
              replace x92 : bits .xor .u8 (pk.toNat : Int) 92 = ((b92.getD i 0).toNat : Int) := x92
              obtain ⟨bi, hbi⟩ : ∃ p, p = b54.getD i 0 := ⟨_, rfl⟩
              obtain ⟨bo, hbo⟩ : ∃ p, p = b92.getD i 0 := ⟨_, rfl⟩
              rw [← hbi] at T54 x54
              rw [← hbo] at T92 x92
              subst hA1
              have dka := (Fr0.alloc (Fr0.refl wr) (.cells #[.int .u8 (bi.toNat : Int)] 5)).cell dkw
              clear hpk hbi hbo E54 E92 hA2 hik2 dk hck
              go_wp2_with (first
                | (have _q := I5; refine list_append_sl (base := w.heap.size) (d := b92.take i) (e := [bo]) rfl _ _ rfl ((O5.out).fr0 ((Fr0.refl w5).alloc _)) rfl ?_ ?_ rfl ?_ ?_; · (have := (F5.out).size; simp; omega)
                   · exact lit_bytes w5 5 [bo] (by simp) (0, 0)
                   · (rw [LO.out]; simp; omega)
                   intro A6 c6 w6 hS hF hK; have O6 := Lib.hid hS; have hin6 := Fr.trans (Fr.mono (Fr0.alloc (Fr0.refl w5) _) (fun _ h => h.elim)) hF; have DQ := Lib.hid (show ∀ j, inBlk (.slice A5 (i + 1) c5) j → ¬ inBlk (.slice Ao i co) j from fun j hj hq => by
                     rcases (K5.out) j hj with h | h
                     · exact (hD.out) j h hq
                     · have := ((KO.out).lo j hq).2; omega); have I6 := Lib.hid ((I5.out).fr hin6 (DQ.out)); have D6 := Lib.hid (show ∀ j, inBlk (.slice A5 (i + 1) c5) j → ¬ inBlk (.slice A6 (b92.take i ++ [bo]).length c6) j from fun j hj hq => by
                     rcases hK j hq with h | h
                     · exact (DQ.out) j hj h
                     · have h1 := ((I5.out).lo j hj).2; simp at h; omega); have B6 := Lib.hid ((B5.out).fr hin6 (fun hk => (O5.out).ne B5.out (by decide) _ hk rfl)); have F6 := Lib.hid (Fr.then F5.out hin6 (fun j hj hl => absurd ((O5.out).lo j hj).1 (by omega))); rw [show (b92.take i).length + [(bo : UInt8)].length = i + 1 from by rw [LO.out]; rfl]; clear hS hF hK hin6)
                | (refine list_append_sl (base := w.heap.size) (d := b54.take i) (e := [bi]) rfl _ _ rfl ((KI.out).fr0 ((Fr0.refl wr).alloc _)) rfl ?_ ?_ rfl ?_ ?_; · (have := (KF.out).size; simp; omega)
                   · exact lit_bytes wr 5 [bi] (by simp) (0, 0)
                   · (rw [LI.out]; simp; omega)
                   intro A5 c5 w5 hS hF hK; have hin5 := Fr.trans (Fr.mono (Fr0.alloc (Fr0.refl wr) _) (fun _ h => h.elim)) hF; have I5 := Lib.hid (show SlO w.heap.size w5 (.slice A5 (i + 1) c5) (b54.take i ++ [bi]) from by have h := hS; rw [show (b54.take i ++ [(bi : UInt8)]).length = i + 1 from by rw [List.length_append, LI.out]; rfl] at h; exact h); have K5 := Lib.hid (show ∀ j, inBlk (.slice A5 (i + 1) c5) j → inBlk (.slice Ai i ci) j ∨ wr.heap.size ≤ j from fun j hj => by
                     have h := hK j (by rw [show (b54.take i ++ [(bi : UInt8)]).length = i + 1 from by rw [List.length_append, LI.out]; rfl]; exact hj)
                     rcases h with h | h
                     · exact .inl h
                     · (simp at h; exact .inr (by omega))); have O5 := Lib.hid ((KO.out).fr hin5 (fun j hj hq => (hD.out) j hq hj)); have B5 := Lib.hid ((KB.out).fr hin5 (fun hk => (KI.out).ne KB.out (by decide) _ hk rfl)); have F5 := Lib.hid (Fr.then KF.out hin5 (fun j hj hl => absurd ((KI.out).lo j hj).1 (by omega))); rw [show (b54.take i).length + [(bi : UInt8)].length = i + 1 from by rw [LI.out]; rfl]; clear hS hF hK hin5))
              go_roundw
              case measure => simp [intOf]; omega
              case rel =>
                have h1 := I6.out
                have h2 := O6.out
                have h3 := D6.out
                rw [← T54.out] at h1
                rw [show (b92.take i ++ [(bo : UInt8)]).length = i + 1 from by rw [List.length_append, LO.out]; rfl] at h2 h3
                rw [← T92.out] at h2
                exact ⟨i + 1, c5, c6, A5, A6, by omega, by go_num, rfl, rfl, h1, h2, Lib.hid h3, B6.out, F6.out⟩
            · have i2 : (nk : Int) ≤ (i : Int) := by omega
              rw [(HP0.out) i (by omega) hlt] at E54 E92
              rw [show b54.getD i 0 = 54 from E54.trans (by decide)] at T54
              rw [show b92.getD i 0 = 92 from E92.trans (by decide)] at T92
              clear E54 E92
              go_wp2_with (first
                | (have _q := I5; refine list_append_sl (base := w.heap.size) (d := b92.take i) (e := [92]) rfl _ _ rfl ((O5.out).fr0 ((Fr0.refl w5).alloc _)) rfl ?_ ?_ rfl ?_ ?_; · (have := (F5.out).size; simp; omega)
                   · exact lit_bytes w5 5 [92] (by simp) (0, 0)
                   · (rw [LO.out]; simp; omega)
                   intro A6 c6 w6 hS hF hK; have O6 := Lib.hid hS; have hin6 := Fr.trans (Fr.mono (Fr0.alloc (Fr0.refl w5) _) (fun _ h => h.elim)) hF; have DQ := Lib.hid (show ∀ j, inBlk (.slice A5 (i + 1) c5) j → ¬ inBlk (.slice Ao i co) j from fun j hj hq => by
                     rcases (K5.out) j hj with h | h
                     · exact (hD.out) j h hq
                     · have := ((KO.out).lo j hq).2; omega); have I6 := Lib.hid ((I5.out).fr hin6 (DQ.out)); have D6 := Lib.hid (show ∀ j, inBlk (.slice A5 (i + 1) c5) j → ¬ inBlk (.slice A6 (b92.take i ++ [92]).length c6) j from fun j hj hq => by
                     rcases hK j hq with h | h
                     · exact (DQ.out) j hj h
                     · have h1 := ((I5.out).lo j hj).2; simp at h; omega); have B6 := Lib.hid ((B5.out).fr hin6 (fun hk => (O5.out).ne B5.out (by decide) _ hk rfl)); have F6 := Lib.hid (Fr.then F5.out hin6 (fun j hj hl => absurd ((O5.out).lo j hj).1 (by omega))); rw [show (b92.take i).length + [(92 : UInt8)].length = i + 1 from by rw [LO.out]; rfl]; clear hS hF hK hin6)
                | (refine list_append_sl (base := w.heap.size) (d := b54.take i) (e := [54]) rfl _ _ rfl ((KI.out).fr0 ((Fr0.refl wr).alloc _)) rfl ?_ ?_ rfl ?_ ?_; · (have := (KF.out).size; simp; omega)
                   · exact lit_bytes wr 5 [54] (by simp) (0, 0)
                   · (rw [LI.out]; simp; omega)
                   intro A5 c5 w5 hS hF hK; have hin5 := Fr.trans (Fr.mono (Fr0.alloc (Fr0.refl wr) _) (fun _ h => h.elim)) hF; have I5 := Lib.hid (show SlO w.heap.size w5 (.slice A5 (i + 1) c5) (b54.take i ++ [54]) from by have h := hS; rw [show (b54.take i ++ [(54 : UInt8)]).length = i + 1 from by rw [List.length_append, LI.out]; rfl] at h; exact h); have K5 := Lib.hid (show ∀ j, inBlk (.slice A5 (i + 1) c5) j → inBlk (.slice Ai i ci) j ∨ wr.heap.size ≤ j from fun j hj => by
                     have h := hK j (by rw [show (b54.take i ++ [(54 : UInt8)]).length = i + 1 from by rw [List.length_append, LI.out]; rfl]; exact hj)
                     rcases h with h | h
                     · exact .inl h
                     · (simp at h; exact .inr (by omega))); have O5 := Lib.hid ((KO.out).fr hin5 (fun j hj hq => (hD.out) j hq hj)); have B5 := Lib.hid ((KB.out).fr hin5 (fun hk => (KI.out).ne KB.out (by decide) _ hk rfl)); have F5 := Lib.hid (Fr.then KF.out hin5 (fun j hj hl => absurd ((KI.out).lo j hj).1 (by omega))); rw [show (b54.take i).length + [(54 : UInt8)].length = i + 1 from by rw [LI.out]; rfl]; clear hS hF hK hin5))
              go_roundw
              case measure => simp [intOf]; omega
              case rel =>
                have h1 := I6.out
                have h2 := O6.out
                have h3 := D6.out
                rw [← T54.out] at h1
                rw [show (b92.take i ++ [(92 : UInt8)]).length = i + 1 from by rw [List.length_append, LO.out]; rfl] at h2 h3
                rw [← T92.out] at h2
                exact ⟨i + 1, c5, c6, A5, A6, by omega, by go_num, rfl, rfl, h1, h2, Lib.hid h3, B6.out, F6.out⟩
          · obtain rfl : i = 64 := by omega
            have e1 : b54.take 64 = b54 := List.take_of_length_le (by rw [H54.out]; omega)
            have e2 : b92.take 64 = b92 := List.take_of_length_le (by rw [H92.out]; omega)
            rw [e1] at KI
            rw [e2] at KO
            have HSI := Lib.hid (show Calls Try.prog 11 #[.slice (some ⟨wr.heap.size, 0, none⟩) 2 2] (wr.alloc (.cells #[.slice Ai 64 ci, .slice At nt ct] 22)) (fun e w' => e = .returned (.agg (byts (shaN (b54 ++ text))).toArray) ∧ Fr0 (wr.alloc (.cells #[.slice Ai 64 ci, .slice At nt ct] 22)) w') from
              sum_at ((KI.out).rd.fr0 ((Fr0.refl wr).alloc _)) ((HTE.out).fr0 (Fr0.alloc KF.out _)) (by rw [H54.out, HNT.out]; omega) (Blk.new wr _ _))
            have hi13 := dig_info (sha_len (b54 ++ text))
            have ho13 := z32_size (sha_len (b54 ++ text))
            have ha13 := byts_all (shaN (b54 ++ text))
            have l13 := Lib.hid (sha_len (b54 ++ text))
            rw [← HZ32.out] at ho13
            obtain ⟨ino, hin⟩ : ∃ d, d = shaN (b54 ++ text) := ⟨_, rfl⟩
            rw [← hin] at HSI hi13 ho13 ha13 l13 HMW
            obtain ⟨s13, hs13⟩ : ∃ s, s = (byts ino).toArray := ⟨_, rfl⟩
            rw [← hs13] at HSI hi13 ho13 ha13
            have HS13 := Lib.hid hs13
            have HI13 := Lib.hid hi13
            have HO13 := Lib.hid ho13
            clear e1 e2 hin hs13 hi13 ho13 hlt hD
            go_upto_region 22 with (first
              | (go_at_call 11; refine (HSI.out).mono ?_; rintro e w5 ⟨rfl, hf⟩; have hf2 := Fr0.trans ((Fr0.refl wr).alloc _) hf; have B5 := Lib.hid ((KB.out).fr0 hf2); have O5 := Lib.hid ((KO.out).fr0 hf2); have F5 := Lib.hid (Fr0.trans KF.out hf2); clear hf hf2)
              | (refine list_alloc_blk rfl 25 rfl z32 HRUN.out ?_; intro g13 w6 hB hF hl; have C6 := Lib.hid hB; have B6 := Lib.hid ((B5.out).fr0 hF); have O6 := Lib.hid ((O5.out).fr0 hF); have F6 := Lib.hid (Fr0.trans F5.out hF); have L13 := Lib.hid hl; clear hB hF hl)
              | (refine list_store_blk rfl 25 _ _ rfl g13 s13 rfl rfl 25 z32 C6.out HI13.out HO13.out ha13 ?_; intro w7 hB hF; have C7 := Lib.hid hB; have B7b := Lib.hid ((B6.out).fr1 hF (fun e => by have := (B5.out).lt; have := L13.out; omega)); have O7 := Lib.hid ((O6.out).fr1 hF C6.out (by decide)); have F7 := Lib.hid (Fr0.new F6.out hF (by have := (F5.out).size; have := L13.out; omega)); clear hB hF))
            obtain ⟨wa, hwa⟩ : ∃ x, x = w7.drew := ⟨_, rfl⟩
            have B7 := Lib.hid (show Blk wa g7 sw 25 from by rw [hwa]; exact Blk.drew B7b.out)
            have C13 := Lib.hid (show Blk wa g13 s13 25 from by rw [hwa]; exact Blk.drew C7.out)
            have O13 := Lib.hid (show SlO w.heap.size wa (.slice Ao 64 co) b92 from by rw [hwa]; exact (O7.out).fr0 ((Fr0.refl _).drew))
            have FA := Lib.hid (show Fr0 w wa from by rw [hwa]; exact Fr0.drew F7.out)
            have UF := Lib.hid (show Fr0 wa w7.drew from by rw [hwa]; exact Fr0.refl _)
            have HS22 := Lib.hid (fun (W : World) (g : Nat) (hf : Fr0 wa W) (hb : Blk W g #[.slice Ao 64 co, .slice (some ⟨g13, 0, none⟩) 32 32] 22) => show Calls Try.prog 11 #[.slice (some ⟨g, 0, none⟩) 2 2] W (fun e w' => e = .returned (.agg sw) ∧ Fr0 W w') from by
              rw [HSW.out, HMW.out]
              have h13 := (C13.out).fr0 hf
              rw [HS13.out] at h13
              exact sum_at ((O13.out).rd.fr0 hf) (rd64 h13 l13.out (by decide)) (by rw [H92.out, l13.out]; decide) hb)
            clear hwa
            refine wp_region_held_drew (S := (fun W => Fr0 wa W)) (by kernel_rfl) UF.out (fun hHeld => ?_)
            have _hI : True := trivial
            clear _hI
            refine takeH (i := 0) rfl (by kernel_rfl) (by kernel_rfl) (by kernel_rfl) (fun _ _ _ h => h) (.inl ⟨rfl, fun W hW => (by go_simp; try rfl)⟩) UF.out ?_
            try simp only [Act.put, List.setIfInBounds_toArray, List.set_cons_zero, List.set_cons_succ]
            have _hI : True := trivial
            clear _hI
            refine takeH (i := 1) rfl (by kernel_rfl) (by kernel_rfl) (by kernel_rfl) (fun _ _ _ h => h) (v := .slice (some ⟨g13, 0, none⟩) 32 32) (.inl ⟨rfl, fun W hW => (by go_simp; try rfl)⟩) UF.out ?_
            try simp only [Act.put, List.setIfInBounds_toArray, List.set_cons_zero, List.set_cons_succ]
            have _hI : True := trivial
            clear _hI
            refine takeH (i := 4) rfl (by kernel_rfl) (by kernel_rfl) (by kernel_rfl) (fun _ _ _ h => h) (yields_load_blk rfl 25 _ rfl g7 rfl 25 sw (fun W hW => (B7.out).fr0 hW) _ Try.underlying25 rfl HIW.out) UF.out ?_
            try simp only [Act.put, List.setIfInBounds_toArray, List.set_cons_zero, List.set_cons_succ]
            have _hI : True := trivial
            clear _hI
            refine wpAnyH_ready (rs := [2]) (by kernel_rfl) (by simp) (consG rfl rfl (fun K hK => ?_) AllReadyH.nil)
            have _hI : True := trivial
            clear _hI
            refine wp_built_blk 23 22 _ _ rfl #[.slice Ao 64 co, .slice (some ⟨g13, 0, none⟩) 32 32] (fun W => by go_simp; try rfl) ?_
            intro gb Wn hB hf hg
            replace UF := Lib.hid (Fr0.trans UF.out hf)
            have GB := Lib.hid hB
            clear hB hf hg
            refine hK.out _ _ UF.out ?_
            clear hK
            try simp only [Act.put, List.setIfInBounds_toArray, List.set_cons_zero, List.set_cons_succ]
            have _hI : True := trivial
            clear _hI
            refine wpAnyH_ready (rs := [3]) (by kernel_rfl) (by simp) (consG rfl rfl (fun K hK => ?_) AllReadyH.nil)
            have _hI : True := trivial
            clear _hI
            go_simp
            refine (HS22.out _ _ UF.out GB.out).mono ?_
            rintro e Wn ⟨rfl, hf⟩
            replace UF := Lib.hid (Fr0.trans UF.out hf)
            clear hf
            refine hK.out _ _ UF.out ?_
            clear hK
            try simp only [Act.put, List.setIfInBounds_toArray, List.set_cons_zero, List.set_cons_succ]
            have _hI : True := trivial
            clear _hI
            refine takeH (i := 5) rfl (by kernel_rfl) (by kernel_rfl) (by kernel_rfl) (fun _ _ _ h => h) (v := .bool true) (.inl ⟨rfl, fun W hW => bin_run rfl rfl rfl (dig_guard _ _ _ _ _ W) (HE.out W)⟩) UF.out ?_
            try simp only [Act.put, List.setIfInBounds_toArray, List.set_cons_zero, List.set_cons_succ]
            have _hI : True := trivial
            clear _hI
            refine takeH (i := 6) rfl (by kernel_rfl) (by kernel_rfl) (by kernel_rfl) (fun _ _ _ h => h) (.inl ⟨rfl, fun W hW => (by go_simp; try rfl)⟩) UF.out ?_
            try simp only [Act.put, List.setIfInBounds_toArray, List.set_cons_zero, List.set_cons_succ]
            refine wpAnyH_done (by kernel_rfl) ?_ _
            go_wp2_with fail
            go_ret
            exact ⟨rfl, Fr0.trans FA.out UF.out⟩
    · have hgt : (300 : Int) < (nt : Int) := by omega
      go_enter Try.func5, Try.ntmps5
      go_wp2_with (go_at_call 7; refine (HKN.out _).mono ?_; rintro e w1 ⟨rfl, hf⟩; have F1 := Lib.hid hf; clear hf)
      go_ret
      exact ⟨rfl, F1.out⟩
  · have hgt : (300 : Int) < (nk : Int) := by omega
    go_enter Try.func5, Try.ntmps5
    go_wp2_with (go_at_call 7; refine (HKN.out _).mono ?_; rintro e w1 ⟨rfl, hf⟩; have F1 := Lib.hid hf; clear hf)
    go_ret
    exact ⟨rfl, F1.out⟩
namespace MacLong
open Go.ChangeShapes Go.WideShapes Go.ChangeAt
open Go.ChangeMaps (open_string shut_string)

theorem own : ownKnob Try.prog.godebug = none := by kernel_rfl
theorem laidOut : laidOutB Try.prog = true := by kernel_rfl

set_option maxRecDepth 100000 in
theorem lifted (os : Os) (started : os.Started) (H : Type) (enc : TypeId × Value → H) :
    ReturnsInHanded {} Try.checked os 5 .any (Rows.macLongSpec.pre6 enc Try.prog Try.f5 Rows.macLongRow.domain false) (Rows.macLongSpec.post enc Try.prog Try.f5 false true false false) := by
  refine returnsInHanded_of_change (C := Try.checked) own started (by kernel_rfl) Try.func5
    (ChangeSpec.witness6 (enc := enc) (C := Try.checked) false ⟨#[], #[.slice none 0 0, .slice none 0 0, .int .i64 0], []⟩ 8 (by kernel_rfl) (by kernel_rfl) (by kernel_rfl) (by kernel_rfl)) ?_
  intro W base args ds gs before hval0 hW hcnd _
  have hval : ∀ (j : Nat) t v, Try.f5.params[j]? = some t → args[j]? = some v → Value.okWide Try.prog W .any base t v := hval0
  have hW' := hW
  obtain ⟨p, q, hA0, hV, rfl, hfz, hnd⟩ := hW
  have hA : DataW.TrodAll enc Try.prog W 0 (fun _ => true) true Try.f5.params.toList args.toList ds p := hA0
  rw [Try.params5] at hA hval
  obtain ⟨v0, vs0, d0', ds0, p0, q0, hargs, rfl, rfl, h0, r0⟩ := trodAll_cons hA
  obtain ⟨v1, vs1, d1', ds1, p1, q1, rfl, rfl, rfl, h1, r1⟩ := trodAll_cons r0
  obtain ⟨v2, vs2, d2', ds2, p2, q2, rfl, rfl, rfl, h2, r2⟩ := trodAll_cons r1
  obtain ⟨rfl, rfl, rfl⟩ := trodAll_nil r2
  obtain rfl : args = #[v0, v1, v2] := by cases args; simp_all
  obtain ⟨rfl, rfl⟩ := trodVars_none hV
  have k0 := h0
  have lt0 : ∀ x ∈ p0, x.block < W.heap.size := by obtain ⟨m, hm⟩ := k0; exact DataW.trod_lt m _ _ _ hm
  obtain ⟨A0, n0, c0, rfl⟩ := okWide_slice Try.underlying22 (hval 0 22 v0 rfl rfl)
  obtain ⟨fuel0, hf0⟩ := h0
  obtain ⟨d0, hy0⟩ := arg_bytes Try.underlying22 Try.underlying5 (by kernel_rfl) hf0
  have k1 := h1
  have lt1 : ∀ x ∈ p1, x.block < W.heap.size := by obtain ⟨m, hm⟩ := k1; exact DataW.trod_lt m _ _ _ hm
  obtain ⟨A1, n1, c1, rfl⟩ := okWide_slice Try.underlying22 (hval 1 22 v1 rfl rfl)
  obtain ⟨fuel1, hf1⟩ := h1
  obtain ⟨d1, hy1⟩ := arg_bytes Try.underlying22 Try.underlying5 (by kernel_rfl) hf1
  obtain ⟨n2, rfl, rfl, rfl, hn2⟩ := open_int Try.underlying3 (hval 2 3 v2 rfl rfl) h2
  have hm2 := lit_i64 hn2
  clear hA0 hval0
  refine (llong_any n2 hm2.1 hm2.2 hy0 hy1).mono fun e W' ⟨he, hfr⟩ => ?_
  have bel : Below W.heap.size W W' := Fr0.below hfr
  subst he
  exact ⟨_, rfl, _, _, _, [], _, [], hW', trodAll_mk1 (shut_bool Try.underlying4 _), (trodAll_cons_mk (Below.trod laidOut (by kernel_rfl) (of_decide_eq_true (by kernel_rfl)) k0 bel lt0) (trodAll_cons_mk (Below.trod laidOut (by kernel_rfl) (of_decide_eq_true (by kernel_rfl)) k1 bel lt1) (trodAll_cons_mk (shut_int Try.underlying3 hn2) trodAll_mk0))), rfl, bel.frame _, fun h => by cases h⟩

theorem over : Rows.macLongRow.holds Try.pinned (OpenSpec.ofChange Rows.macLongSpec) :=
  OpenClaim.holds_of_wide 5 Try.f5 rfl rfl rfl rfl rfl rfl rfl ⟨rfl, rfl, rfl, rfl, rfl⟩ rfl rfl rfl rfl rfl (by kernel_rfl) Try.func5 (by kernel_rfl)
    (of_decide_eq_true (by kernel_rfl)) (by unfold Func.isWrapper; first | (rw [if_pos (by decide +kernel)]; kernel_rfl) | (rw [if_neg (by decide +kernel)]; exact ⟨rfl, rfl⟩))
    (fun os started H enc _ => lifted os started H enc)

theorem proved : Rows.MacLongSaid := over
#print axioms proved
end MacLong
end Go.Proofs.Ytjkcbklgddnbdaa
