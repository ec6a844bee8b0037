/- ShaPlays: a hash tells the digest of what it has, again and again, how many bytes that is, and a copy goes its own way: the law returns true for any calls. No condition. -/
import Derived.Test.YtinajkhnfebgcaaShaEq
import Derived.Test.YtinajkhnfebgcaaArgsBop
import Derived.Handy
set_option linter.unusedSimpArgs false
namespace Go.Proofs.Ytinajkhnfebgcaa
open Go.RowKit

theorem SlO.low {b0 b1 : Nat} {w : World} {v : Value} {d : List UInt8} (h : SlO b1 w v d) (hb : b0 ≤ b1) : SlO b0 w v d := by
  rcases h with h | ⟨g, off, c, cur, hv, hg, rest⟩
  · exact .inl h
  · exact .inr ⟨g, off, c, cur, hv, by omega, rest⟩
theorem HashV.low {b0 b1 p : Nat} {w : World} {v : Value} {all : List UInt8} (h : HashV b1 w p v all) (hb : b0 ≤ b1) : HashV b0 w p v all := ⟨h.blk, h.sl.low hb, Nat.le_trans hb h.lo⟩
theorem SlO.put {base n c : Nat} {w : World} {A : Option Addr} {d : List UInt8} (h : SlO base w (.slice A n c) d) {j : Nat} (hj : j < d.length) :
    ∃ g off u, A = some ⟨g, off, none⟩ ∧ j < c ∧ w.cell? ⟨g, off + j, none⟩ = some u ∧ w.frozen? ⟨g, off + j, none⟩ = false ∧ ∀ b : UInt8, SlO base (w.setCell ⟨g, off + j, none⟩ (.int .u8 b.toNat)) (.slice A n c) (d.set j b) ∧ Fr (inBlk (.slice A n c)) w (w.setCell ⟨g, off + j, none⟩ (.int .u8 b.toNat)) := by
  rcases h with ⟨_, rfl⟩ | ⟨g, off, c', cur, hv, hb, hg, h1, h2, h3, h4⟩
  · simp at hj
  · injection hv with hA hn hc
    subst hA hc
    subst hn
    have hs : off + j < cur.size := by omega
    refine ⟨g, off, cur[off + j], rfl, by omega, hg.cell _ (Array.getElem?_eq_getElem hs), hg.free _, fun b => ⟨.inr ⟨g, off, c, _, by rw [List.length_set], hb, hg.set (off + j) _, by simpa using h1, by simpa using h2, h3, fun i u hu => ?_⟩, Fr.mono ((Fr1.refl g w).set (off + j) _) (fun k hk => by rw [hk]; rfl)⟩⟩
    rw [byts, List.getElem?_map, List.getElem?_set] at hu
    by_cases hij : j = i
    · subst hij
      rw [if_pos rfl, if_pos hj] at hu
      rw [Array.getElem?_setIfInBounds, if_pos rfl, if_pos hs]
      exact hu
    · rw [if_neg hij] at hu
      rw [Array.getElem?_setIfInBounds, if_neg (by omega)]
      exact h4 i u (by rw [byts, List.getElem?_map]; exact hu)
/-- The loop's state: a hash, and the bytes that it has. -/
structure Plays (w wr : World) (p : Nat) (v : Value) (A : Option Addr) (n c : Nat) (all : List UInt8) : Prop where
  h : HashV w.heap.size wr p v all
  s : SlO w.heap.size wr (.slice A n c) all
  d : ∀ j, inBlk v j → ¬ inBlk (.slice A n c) j
  f : Fr0 w wr
  n : n = all.length
/-- More bytes behind it: the hash first, then the bytes. -/
theorem Plays.put {w wr w4 w5 : World} {p n c c5 : Nat} {v v5 : Value} {A A5 : Option Addr} {all de : List UInt8} (P : Plays w wr p v A n c all) (_k4 : wr.heap.size ≤ w4.heap.size) (hH : HashV w.heap.size w4 p v5 (all ++ de)) (hS4 : SlO w.heap.size w4 (.slice A n c) all)
    (hv : ∀ j, inBlk v5 j → inBlk v j ∨ wr.heap.size ≤ j) (h4 : Fr0 w w4) (hS : SlO w.heap.size w5 (.slice A5 (all ++ de).length c5) (all ++ de)) (hF : Fr (inBlk (.slice A n c)) w4 w5) (hK : ∀ k, inBlk (.slice A5 (all ++ de).length c5) k → inBlk (.slice A n c) k ∨ w4.heap.size ≤ k) :
    Plays w w5 p v5 A5 (all ++ de).length c5 (all ++ de) := by
  have apart : ∀ j, inBlk v5 j → ¬ inBlk (.slice A n c) j := fun j hj hq => by
    rcases hv j hj with h | h
    · exact P.d j h hq
    · have := (P.s.lo j hq).2; omega
  refine ⟨HashV.fr hH hF (fun k hk hq => ?_), hS, fun j hj hq => ?_, Fr.then h4 hF (fun i hi hl => by have := (hS4.lo i hi).1; omega), rfl⟩
  · rcases hk with rfl | hk
    · exact hS4.ne hH.blk (by decide) _ hq rfl
    · exact apart k hk hq
  · rcases hK j hq with h | h
    · exact apart j hj h
    · have := (hH.sl.lo j hj).2; omega
theorem other_lit (w : World) : RdB (w.alloc (.cells #[.int .u8 111, .int .u8 116, .int .u8 104, .int .u8 101, .int .u8 114] 5 (5, 6))) (.slice (some ⟨w.heap.size, 0, none⟩) 5 5) [111, 116, 104, 101, 114] := lit_bytes w 5 [111, 116, 104, 101, 114] (by simp) (5, 6)
set_option maxHeartbeats 4000000 in
set_option maxRecDepth 100000 in
theorem plays_any {lv : Value} {l : List (Int × Value × List UInt8)} {w : World} (h : Rd w 2 lv l.length (flat bopC l)) (hz : ∀ x ∈ l, BopIn w x) : Calls Try.prog 6 #[lv] w fun e w' => e = .returned (.bool true) ∧ Fr0 w w' := by
  have l63 := h.le63
  obtain ⟨Av, cv, rfl, -, -, -⟩ := h.form
  have HKN := Lib.hid (fun W => known02_any W)
  have HNW := Lib.hid (fun W => hnew_any W)
  have HR := Lib.hid h
  have HZ := Lib.hid hz
  obtain ⟨L, hL⟩ : ∃ n, n = l.length := ⟨_, rfl⟩
  rw [← hL] at l63 ⊢
  have HL := Lib.hid hL
  clear h hz hL
  go_enter Try.func6, Try.ntmps6
  go_wp2_with (first
    | (go_at_call 13; refine (HKN.out _).mono ?_; rintro e w1 ⟨rfl, hf⟩; have F1 := Lib.hid hf; clear hf)
    | (go_at_call 19; refine (HNW.out _).mono ?_; rintro e w2 ⟨p0, rfl, hv, hf⟩; have H2 := Lib.hid (HashV.low hv (F1.out).size); have F2 := Lib.hid (Fr0.trans F1.out hf); clear hv hf))
  go_loopw [3, 4, 5] (fun v3 v4 v5 wr => ∃ (k p : Nat) (v : Value) (A : Option Addr) (n c : Nat) (all : List UInt8), k ≤ L ∧ k ≤ 40 ∧ v3 = .pointer (some ⟨p, 0, none⟩) ∧ v4 = .slice A n c ∧ v5 = .int .i64 k ∧ n ≤ 3000 ∧ Plays w wr p v A n c all) (fun _ _ v5 _ => L - (intOf v5).toNat)
  case atStart => exact ⟨0, p0, _, none, 0, 0, [], by omega, by omega, rfl, rfl, rfl, by omega, ⟨H2.out, SlO.nil _ _, (fun j hj => by cases hj), F2.out, rfl⟩⟩
  case round =>
    obtain ⟨k, p, v, A, n, c, all, hk, hk40, rfl, rfl, rfl, hn3, hP⟩ := hrel
    obtain ⟨wo, rfl⟩ : ∃ x, x = wr := ⟨_, rfl⟩
    have PL := Lib.hid hP
    have i0 : (0 : Int) ≤ (k : Int) := by omega
    by_cases hlt : k < L
    · by_cases h40 : k < 40
      · have hkd : k < l.length := by rw [← HL.out]; exact hlt
        have HR2 : Rd w 2 (.slice Av L cv) L (flat bopC l) := by have h := HR.out; rw [← HL.out] at h; exact h
        have hz := (HZ.out) _ (List.getElem_mem hkd)
        obtain ⟨g, off, hA, hkc, hgl, hcells⟩ := HR2.cellA hlt
        subst hA
        have c0 := hcells 0 (.int .i64 l[k].1) (by rw [flat_at bopC_len l k hkd (by decide)]; rfl)
        have c1 := hcells 1 l[k].2.1 (by rw [flat_at bopC_len l k hkd (by decide)]; rfl)
        have hrb := hz.1
        obtain ⟨Ae, ce, hv, -, -, -⟩ := hrb.form
        obtain ⟨de, hde⟩ : ∃ d, d = l[k].2.2 := ⟨_, rfl⟩
        obtain ⟨kd, hkd2⟩ : ∃ d, d = l[k].1 := ⟨_, rfl⟩
        rw [hv] at c1 hrb
        rw [← hde] at c1 hrb
        rw [← hkd2] at c0
        obtain ⟨el, hel⟩ : ∃ n, n = de.length := ⟨_, rfl⟩
        rw [← hel] at c1 hrb
        simp only [Nat.add_zero] at c0
        have HC := Lib.hid (fun (W : World) (hf : Fr0 w W) => show W.cell? ⟨g, off + k * 2, none⟩ = some (.int .i64 kd) ∧ W.cell? ⟨g, off + k * 2 + 1, none⟩ = some (.slice Ae el ce) from ⟨hf.cell c0, hf.cell c1⟩)
        have i1 : (k : Int) < (L : Int) := by omega
        have HEL := Lib.hid hel
        have HRB := Lib.hid hrb
        clear hrb hde hkd2 hel hv c0 c1 hcells hz HR2 hkd hgl hP
        obtain ⟨d0, d1⟩ := (HC.out) wo (PL.out).f
        by_cases hle : n + el ≤ 3000
        · have HLE := Lib.hid (show all.length + de.length ≤ 1000000 by have := (PL.out).n; have := HEL.out; omega)
          have HNE := Lib.hid (show all.length + de.length = n + el by rw [(PL.out).n, HEL.out])
          by_cases k0 : kd = 0
          · subst k0
            have e1 := ((HC.out) _ (Fr0.alloc (PL.out).f (.cells #[] 5))).2
            go_upto_region 16 with (first
              | (refine list_append_sl (base := wo.heap.size) (d := []) (e := de) rfl _ _ rfl (SlO.new0 (Nat.le_refl _)) rfl (by simp) (((HRB.out).fr0 (PL.out).f).fr0 ((Fr0.refl wo).alloc _)) rfl (by have := HLE.out; simp; omega) ?_; intro A6 c6 w4 hS hF hK; have S4 := Lib.hid (show SlO wo.heap.size w4 (.slice A6 el c6) de from by rw [HEL.out]; exact hS); have F4 := Lib.hid ((SlO.new0 (Nat.le_refl _)).thenFr ((Fr0.refl wo).alloc _) hF); rw [show ([] : List UInt8).length + de.length = el from by rw [HEL.out]; exact Nat.zero_add _]; clear hS hF hK)
              | (go_at_call 20; refine (hwrite_any (HashV.fr0 (PL.out).h F4.out) (S4.out).rd (fun _ hq => by have h1 := (S4.out).lo p hq; have h2 := (PL.out).h.blk.lt; omega) (Nat.le_trans ((PL.out).f).size (F4.out).size) HLE.out).mono ?_; rintro e w5 ⟨rfl, v5, hv, hf, hkk⟩; have H5 := Lib.hid hv; have F5 := Lib.hid hf; have K5 := Lib.hid hkk; clear hv hf hkk))
            have S5 := Lib.hid ((S4.out).fr F5.out (fun j hj hq => by have h1 := ((S4.out).lo j hj).1; have h2 := (HashR.own_lo (PL.out).h j hq).2; omega))
            have FW5 := Lib.hid (show Fr0 w w5 from Fr.then (Fr0.trans (PL.out).f F4.out) F5.out (fun j hj hl => by have := (HashR.own_lo (PL.out).h j hj).1; omega))
            have SA5 := Lib.hid (((PL.out).s.fr0 F4.out).fr F5.out (fun j hj hq => by
              rcases hq with hq | hq
              · exact (PL.out).s.ne (PL.out).h.blk (by decide) _ hj hq
              · exact (PL.out).d j hq hj))
            have hz5 : w4.heap.size ≤ w5.heap.size := (F5.out).size
            have HDE := Lib.hid (show de.length = el from (HEL.out).symm)
            clear d0 d1
            go_wp2_with fail
            go_loopw [7] (fun v7 wq => ∃ (j : Nat) (d2 : List UInt8), j ≤ el ∧ v7 = .int .i64 j ∧ Hid (d2.length = el) ∧ SlO wo.heap.size wq (.slice A6 el c6) d2 ∧ Fr (inBlk (.slice A6 el c6)) w5 wq) (fun v7 _ => el - (intOf v7).toNat)
            case atStart => exact ⟨0, de, by omega, rfl, HDE, S5.out, Fr.refl _ _⟩
            case round =>
              obtain ⟨j, d2, hj, rfl, hd2, hS2, hF2⟩ := hrel
              have j0 : (0 : Int) ≤ (j : Int) := by omega
              by_cases hjl : j < el
              · obtain ⟨g6, o6, u6, hA6, hjc, e6, f6, hput⟩ := hS2.put (show j < d2.length by rw [hd2.out]; exact hjl)
                subst hA6
                have j1 : (j : Int) < (el : Int) := by omega
                have HPUT := Lib.hid (hput 7)
                have F2 := Lib.hid hF2
                clear hput hS2 hF2
                go_wp2_with fail
                go_roundw
                case measure => simp [intOf]; omega
                case rel => exact ⟨j + 1, d2.set j 7, by omega, by go_num, Lib.hid (by rw [List.length_set]; exact hd2.out), (HPUT.out).1, Fr.trans F2.out (HPUT.out).2⟩
              · obtain rfl : j = el := by omega
                have FQ := Lib.hid hF2
                have AP := Lib.hid (fun i (hi : inBlk (.slice A6 j c6) i) => show wo.heap.size ≤ i ∧ i < w4.heap.size from (S4.out).lo i hi)
                have H6 := Lib.hid (HashV.fr H5.out hF2 (fun i hi hq => by
                  have h1 := (AP.out) i hq
                  rcases hi with hi | hi
                  · have := (PL.out).h.blk.lt; omega
                  · rcases (K5.out) i hi with h | h
                    · have := ((PL.out).h.sl.lo i h).2; omega
                    · omega))
                have SA6 := Lib.hid ((SA5.out).fr hF2 (fun i hi hq => by have h1 := (AP.out) i hq; have := ((PL.out).s.lo i hi).2; omega))
                have FW6 := Lib.hid (show Fr0 w wr from Fr.then FW5.out hF2 (fun i hi hl => by have h1 := (AP.out) i hi; have := ((PL.out).f).size; omega))
                have HV6 := Lib.hid (fun i (hi : inBlk v5 i) => show inBlk v i ∨ wo.heap.size ≤ i from by
                  rcases (K5.out) i hi with h | h
                  · exact .inl h
                  · have := (F4.out).size; exact .inr (by omega))
                have hzz : wo.heap.size ≤ wr.heap.size := by have := (F4.out).size; have := hF2.size; omega
                obtain ⟨d0, d1⟩ := (HC.out) wr FW6.out
                clear hjl hj hS2 hF2
                go_wp2_with (first
                  | (refine list_append_sl (base := w.heap.size) (d := all) (e := de) rfl _ _ rfl SA6.out rfl (FW6.out).size ((HRB.out).fr0 FW6.out) rfl HLE.out ?_; intro A8 c8 w8 hS hF hK; have P8 := Lib.hid (Plays.put PL.out hzz H6.out SA6.out HV6.out FW6.out hS hF hK); have HLN := Lib.hid (hlen_any (P8.out).h); rw [show (all ++ de).length = n + j from by rw [List.length_append, HNE.out]] at P8 HLN; rw [HNE.out]; clear hS hF hK)
                  | (go_at_call 23; refine (HLN.out).mono ?_; rintro e w' ⟨rfl, rfl⟩))
                go_roundw
                case measure => simp [intOf]; omega
                case rel => exact ⟨k + 1, p, v5, A8, n + j, c8, all ++ de, by omega, by omega, rfl, rfl, by go_num, by omega, P8.out⟩
          by_cases k1 : kd = 1
          · subst k1
            have HSU := Lib.hid (hsum_any (PL.out).h (by have := (PL.out).n; omega))
            have HRS := Lib.hid (fun W (hf : Fr0 wo W) => rsum_any ((PL.out).s.rd.fr0 hf) (by have := (PL.out).n; omega))
            have HNQ := Lib.hid (fun W => dig_neq (sha_len all) (sha_len all) W)
            rw [decide_eq_true rfl] at HNQ
            obtain ⟨s0, hs0⟩ : ∃ s, s = (byts (shaN all)).toArray := ⟨_, rfl⟩
            rw [← hs0] at HSU HRS HNQ
            clear hs0 k0
            go_wp2_with (first
              | (go_at_call 21; refine (HSU.out).mono ?_; rintro e w5 ⟨rfl, hf⟩; have F5 := Lib.hid hf; clear hf)
              | (go_at_call 15; refine (HRS.out _ F5.out).mono ?_; rintro e w6 ⟨rfl, hf⟩; have F6 := Lib.hid (Fr0.trans F5.out hf); have P6 := Lib.hid (show Plays w w6 p v A n c all from ⟨HashV.fr0 (PL.out).h F6.out, (PL.out).s.fr0 F6.out, (PL.out).d, Fr0.trans (PL.out).f F6.out, (PL.out).n⟩); have HLN := Lib.hid (hlen_any (P6.out).h); rw [← (PL.out).n] at HLN; clear hf)
              | (refine list_binop rfl .neq 28 _ _ _ rfl _ _ _ rfl rfl (dig_guard _ _ _ _ _ _) (HNQ.out _) ?_)
              | (go_at_call 23; refine (HLN.out).mono ?_; rintro e w' ⟨rfl, rfl⟩))
            go_roundw
            case measure => simp [intOf]; omega
            case rel => exact ⟨k + 1, p, v, A, n, c, all, by omega, by omega, rfl, rfl, by go_num, by omega, P6.out⟩
          by_cases k2 : kd = 2
          · subst k2
            have HCP := Lib.hid (hcopy_any (PL.out).h)
            have hcv := fun (W : World) (C : Array Value) (n c : Nat) => Lib.run_convert_bytes_const (P := Try.prog) W 27 5 C n c Try.underlying27 Try.underlying5
            clear k0 k1
            go_wp2_with (first
              | (go_at_call 22; refine (HCP.out).mono ?_; rintro e w5 ⟨p5, v5, rfl, hv, hf⟩; have H5 := Lib.hid hv; have F5 := Lib.hid hf; have HW := Lib.hid (hwrite_any (HashV.fr0 (HashV.fr0 (PL.out).h hf) ((Fr0.refl w5).alloc (.cells #[.int .u8 111, .int .u8 116, .int .u8 104, .int .u8 101, .int .u8 114] 5 (5, 6)))) (other_lit w5) (fun _ hq => by injection hq with hq; have h1 := (PL.out).h.blk.lt; have h2 := hf.size; have hq : w5.heap.size = p := hq; omega) (by have h1 := ((PL.out).f).size; have h2 := hf.size; simp; omega) (by have := (PL.out).n; simp; omega)); clear hv hf)
              | (go_at_call 20; refine (HW.out).mono ?_; rintro e w7 ⟨rfl, v7, hv, hf, hkk⟩; have F7 := Lib.hid hf; have F57 := Lib.hid (show Fr (hOwn p v) w5 w7 from Fr.trans (Fr.mono ((Fr0.refl w5).alloc _) (fun _ h => h.elim)) hf); have P7 := Lib.hid (show Plays w w7 p5 v5 A n c all from ⟨HashV.low (HashV.fr H5.out (F57.out) (fun i hi hq => by have h1 := (HashR.own_lo H5.out i hi).1; have h2 := (HashR.own_lo (PL.out).h i hq).2; omega)) ((PL.out).f).size, ((PL.out).s.fr0 F5.out).fr F57.out (fun i hi hq => by
                  rcases hq with hq | hq
                  · exact (PL.out).s.ne (PL.out).h.blk (by decide) _ hi hq
                  · exact (PL.out).d i hq hi), (fun i hi hq => by have h1 := ((H5.out).sl.lo i hi).1; have h2 := ((PL.out).s.lo i hq).2; omega), Fr.then (Fr0.trans (PL.out).f F5.out) F57.out (fun i hi hl => by have := (HashR.own_lo (PL.out).h i hi).1; omega), (PL.out).n⟩); have HLN := Lib.hid (hlen_any (P7.out).h); rw [← (PL.out).n] at HLN; clear hv hf hkk)
              | (go_at_call 23; refine (HLN.out).mono ?_; rintro e w' ⟨rfl, rfl⟩))
            go_roundw
            case measure => simp [intOf]; omega
            case rel => exact ⟨k + 1, p5, v5, A, n, c, all, by omega, by omega, rfl, rfl, by go_num, by omega, P7.out⟩
          · have q0 : (kd == 0) = false := by simpa using k0
            have q1 : (kd == 1) = false := by simpa using k1
            have q2 : (kd == 2) = false := by simpa using k2
            have HLN := Lib.hid (hlen_any (PL.out).h)
            rw [← (PL.out).n] at HLN
            clear k0 k1 k2
            go_wp2_with (go_at_call 23; refine (HLN.out).mono ?_; rintro e w' ⟨rfl, rfl⟩)
            go_roundw
            case measure => simp [intOf]; omega
            case rel => exact ⟨k + 1, p, v, A, n, c, all, by omega, by omega, rfl, rfl, by go_num, by omega, PL.out⟩
        · go_wp2_with fail
          go_ret
          exact ⟨rfl, (PL.out).f⟩
      · obtain rfl : k = 40 := by omega
        clear hP
        go_wp2_with fail
        go_ret
        exact ⟨rfl, (PL.out).f⟩
    · obtain rfl : k = L := by omega
      have HSU := Lib.hid (hsum_any hP.h (by have := hP.n; omega))
      have HRS := Lib.hid (fun W (hf : Fr0 wo W) => rsum_any (hP.s.rd.fr0 hf) (by have := hP.n; omega))
      have HEQ := Lib.hid (fun W => dig_eql (sha_len all) (sha_len all) W)
      rw [decide_eq_true rfl] at HEQ
      obtain ⟨s0, hs0⟩ : ∃ s, s = (byts (shaN all)).toArray := ⟨_, rfl⟩
      rw [← hs0] at HSU HRS HEQ
      clear hs0 hP hlt
      go_wp2_with (first
        | (go_at_call 21; refine (HSU.out).mono ?_; rintro e w5 ⟨rfl, hf⟩; have F5 := Lib.hid hf; clear hf)
        | (go_at_call 15; refine (HRS.out _ F5.out).mono ?_; rintro e w6 ⟨rfl, hf⟩; have F6 := Lib.hid (Fr0.trans (PL.out).f (Fr0.trans F5.out hf)); clear hf)
        | (refine list_binop rfl .eql 28 _ _ _ rfl _ _ _ rfl rfl (dig_guard _ _ _ _ _ _) (HEQ.out _) ?_))
      go_ret
      exact ⟨rfl, F6.out⟩
namespace ShaPlays
open Go.ChangeShapes Go.WideShapes Go.ChangeAt
open Go.ChangeMaps (open_string shut_string)

theorem own : ownKnob Try.prog.godebug = none := by kernel_rfl
theorem laidOut : laidOutB Try.prog = true := by kernel_rfl

set_option maxRecDepth 100000 in
theorem lifted (os : Os) (started : os.Started) (H : Type) (enc : TypeId × Value → H) :
    ReturnsInHanded {} Try.checked os 6 .any (Rows.shaPlaysSpec.pre6 enc Try.prog Try.f6 Rows.shaPlaysRow.domain false) (Rows.shaPlaysSpec.post enc Try.prog Try.f6 false true false false) := by
  refine returnsInHanded_of_change (C := Try.checked) own started (by kernel_rfl) Try.func6
    (ChangeSpec.witness6 (enc := enc) (C := Try.checked) false ⟨#[], #[.slice none 0 0], []⟩ 8 (by kernel_rfl) (by kernel_rfl) (by kernel_rfl) (by kernel_rfl)) ?_
  intro W base args ds gs before hval0 hW hcnd _
  have hval : ∀ (j : Nat) t v, Try.f6.params[j]? = some t → args[j]? = some v → Value.okWide Try.prog W .any base t v := hval0
  have hW' := hW
  obtain ⟨p, q, hA0, hV, rfl, hfz, hnd⟩ := hW
  have hA : DataW.TrodAll enc Try.prog W 0 (fun _ => true) true Try.f6.params.toList args.toList ds p := hA0
  rw [Try.params6] at hA hval
  obtain ⟨v0, vs0, d0', ds0, p0, q0, hargs, rfl, rfl, h0, r0⟩ := trodAll_cons hA
  obtain ⟨rfl, rfl, rfl⟩ := trodAll_nil r0
  obtain rfl : args = #[v0] := by cases args; simp_all
  obtain ⟨rfl, rfl⟩ := trodVars_none hV
  have k0 := h0
  have lt0 : ∀ x ∈ p0, x.block < W.heap.size := by obtain ⟨m, hm⟩ := k0; exact DataW.trod_lt m _ _ _ hm
  obtain ⟨A0, n0, c0, rfl⟩ := okWide_slice Try.underlying39 (hval 0 39 v0 rfl rfl)
  obtain ⟨fuel0, hf0⟩ := h0
  obtain ⟨l0, hy0, hz0⟩ := arg_of bopC (BopIn W) (by decide) bopC_len Try.underlying39 (by kernel_rfl) (fun n cs x h => (fun h => read_bop Try.underlying43 (by kernel_rfl) (by kernel_rfl) ⟨_, rfl, Try.underlying3⟩ ⟨_, rfl, rfl⟩ Try.underlying27 Try.underlying5 (by kernel_rfl) h) h) hf0
  clear hA0 hval0
  refine (plays_any hy0 hz0).mono fun e W' ⟨he, hfr⟩ => ?_
  have bel : Below W.heap.size W W' := Fr0.below hfr
  subst he
  exact ⟨_, rfl, _, _, _, [], _, [], hW', trodAll_mk1 (shut_bool Try.underlying4 _), (trodAll_cons_mk (Below.trod laidOut (by kernel_rfl) (of_decide_eq_true (by kernel_rfl)) k0 bel lt0) trodAll_mk0), rfl, bel.frame _, fun h => by cases h⟩

theorem over : Rows.shaPlaysRow.holds Try.pinned (OpenSpec.ofChange Rows.shaPlaysSpec) :=
  OpenClaim.holds_of_wide 6 Try.f6 rfl rfl rfl rfl rfl rfl rfl ⟨rfl, rfl, rfl, rfl, rfl⟩ rfl rfl rfl rfl rfl (by kernel_rfl) Try.func6 (by kernel_rfl)
    (of_decide_eq_true (by kernel_rfl)) (by unfold Func.isWrapper; first | (rw [if_pos (by decide +kernel)]; kernel_rfl) | (rw [if_neg (by decide +kernel)]; exact ⟨rfl, rfl⟩))
    (fun os started H enc _ => lifted os started H enc)

theorem proved : Rows.ShaPlaysSaid := over
#print axioms proved
end ShaPlays
end Go.Proofs.Ytinajkhnfebgcaa
