/- The laws' helpers: two links that stand alike; a packet that was heard changes nothing. Conditions stand in the statements. -/
import Derived.Test.YtgcjbbliaelkcaaLkJ2
import Derived.Test.YtgcjbbliaelkcaaSealLaw3M
import Derived.Test.YtgcjbbliaelkcaaLkJ1
import Derived.Test.YtgcjbbliaelkcaaAesTimes
set_option linter.unusedSimpArgs false
set_option linter.unusedVariables false
namespace Go.Proofs.Ytgcjbbliaelkcaa
open Go.RowKit

theorem SlO.putL {base n c : Nat} {w : World} {A : Option Addr} {d : List UInt8} (h : SlO base w (.slice A n c) d) {j : Nat} (hj : j < d.length) :
    ∃ g off, A = some ⟨g, off, none⟩ ∧ j < c ∧ w.cell? ⟨g, off + j, none⟩ = some (.int .u8 ((d.getD j 0).toNat : Int)) ∧ w.frozen? ⟨g, off + j, none⟩ = false ∧ ∀ b : UInt8, SlO base (w.setCell ⟨g, off + j, none⟩ (.int .u8 b.toNat)) (.slice A n c) (d.set j b) ∧ Fr (inBlk (.slice A n c)) w (w.setCell ⟨g, off + j, none⟩ (.int .u8 b.toNat)) := by
  obtain ⟨g, off, u, rfl, h1, h2, h3, h4⟩ := h.put hj
  obtain ⟨g', off', c', hv, -, -, hc⟩ := (h.rd).cell hj
  injection hv with hA _ _
  injection hA with hA
  injection hA with e1 e2
  subst e1 e2
  refine ⟨g, off, rfl, h1, ?_, h3, h4⟩
  rw [hc]; simp [List.getD, hj]
set_option maxHeartbeats 2000000 in
theorem same_any {p q : Nat} {s : Lk} {w : World} (h : LkV w p s) (h' : LkV w q s) (hm : s.made = true) :
    Calls Try.prog 24 #[.pointer (some ⟨p, 0, none⟩), .pointer (some ⟨q, 0, none⟩)] w fun e w' => e = .returned (.bool true) ∧ Fr0 w w' := by
  have N1 := Lib.hid (fun W (hf : Fr0 w W) => lnewest_any (h.fr0 hf) hm)
  have N2 := Lib.hid (fun W (hf : Fr0 w W) => lnewest_any (h'.fr0 hf) hm)
  have A1 := Lib.hid (fun W (hf : Fr0 w W) => laddr_any (h.fr0 hf) hm)
  have A2 := Lib.hid (fun W (hf : Fr0 w W) => laddr_any (h'.fr0 hf) hm)
  have X1 := Lib.hid (fun W (hf : Fr0 w W) => lnext_any (h.fr0 hf) hm)
  have X2 := Lib.hid (fun W (hf : Fr0 w W) => lnext_any (h'.fr0 hf) hm)
  have M1 := Lib.hid (fun W (hf : Fr0 w W) => lmeter_any (h.fr0 hf) hm)
  have M2 := Lib.hid (fun W (hf : Fr0 w W) => lmeter_any (h'.fr0 hf) hm)
  have hb : (s.heard == s.heard) = true := by cases s.heard <;> rfl
  clear h h' hm
  go_enter Try.func24, Try.ntmps24
  go_wp2_with (first
    | (have _q := G7; go_at_call 22; refine (M2.out _ G7.out).mono ?_; rintro e w8 ⟨rfl, hf⟩; have G8 := Lib.hid (Fr0.trans G7.out hf); clear hf)
    | (have _q := G6; go_at_call 22; refine (M1.out _ G6.out).mono ?_; rintro e w7 ⟨rfl, hf⟩; have G7 := Lib.hid (Fr0.trans G6.out hf); clear hf)
    | (have _q := G5; go_at_call 12; refine (X2.out _ G5.out).mono ?_; rintro e w6 ⟨rfl, hf⟩; have G6 := Lib.hid (Fr0.trans G5.out hf); clear hf)
    | (have _q := G4; go_at_call 12; refine (X1.out _ G4.out).mono ?_; rintro e w5 ⟨rfl, hf⟩; have G5 := Lib.hid (Fr0.trans G4.out hf); clear hf)
    | (have _q := G3; go_at_call 21; refine (A2.out _ G3.out).mono ?_; rintro e w4 ⟨rfl, hf⟩; have G4 := Lib.hid (Fr0.trans G3.out hf); clear hf)
    | (have _q := G2; go_at_call 21; refine (A1.out _ G2.out).mono ?_; rintro e w3 ⟨rfl, hf⟩; have G3 := Lib.hid (Fr0.trans G2.out hf); clear hf)
    | (have _q := G1; go_at_call 20; refine (N2.out _ G1.out).mono ?_; rintro e w2 ⟨rfl, hf⟩; have G2 := Lib.hid (Fr0.trans G1.out hf); clear hf)
    | (go_at_call 20; refine (N1.out _ (Fr0.refl w)).mono ?_; rintro e w1 ⟨rfl, hf⟩; have G1 := Lib.hid hf; clear hf))
  go_ret
  exact ⟨rfl, G8.out⟩
set_option maxHeartbeats 4000000 in
set_option maxRecDepth 100000 in
theorem nothing_any {pf pt : Nat} {sf st : Lk} {w : World} {code mark text : List UInt8} {A : Option Addr} {mp c n x y : Nat} {up : Bool} {tv : Value} {go takes wh : Int} (hF : LkV w pf sf) (hT : LkV w pt st) (hmf : sf.made = true) (hmt : st.made = true) (hkf : sf.key = code ++ mark) (hkt : st.key = code ++ mark) (hc : code.length = 16) (hm : mark.length = 32)
    (hb : RdB w (.slice A mp c) (pkL code mark sf.down n x y text)) (hmp : mp = text.length + 28) (hd : sf.down ≠ st.down) (hold : st.heard = true ∧ n ≤ st.newest) (hn : n < 9223372036854775808) (hl : text.length ≤ 1196) (hx : x < 65535) (hy : y < 65536) (hgo : 0 ≤ go ∧ go ≤ 1073741824) (htv : RdB w tv text) :
    Calls Try.prog 23 #[.pointer (some ⟨pf, 0, none⟩), .pointer (some ⟨pt, 0, none⟩), .slice A mp c, .agg #[.bool up, tv, .int .i64 go, .int .i64 takes, .int .i64 wh]] w fun e w' => e = .returned (.bool true) ∧ Fr0 w w' := by
  have hok : hearOk go 7 := ⟨by omega, by decide⟩
  obtain ⟨At, ct, rfl, -, -, -⟩ := htv.form
  obtain ⟨nt, hnt⟩ : ∃ n, n = text.length := ⟨_, rfl⟩
  have CF := Lib.hid (fun W (hf : Fr0 w W) => lcopy_any (hF.fr0 hf))
  have CT := Lib.hid (fun W (hf : Fr0 w W) => lcopy_any (hT.fr0 hf))
  have HA := Lib.hid (fun W (hf : Fr0 w W) => hear_again (now := go) (frm := 7) (hT.fr0 hf) hmt hok hkt hc hm (hb.fr0 hf) hn hl hx hy hd hold)
  have HW := Lib.hid (fun W (hf : Fr0 w W) => hear_way (now := go) (frm := 7) (hF.fr0 hf) hmf hok hkf hc hm (hb.fr0 hf) hn hl rfl)
  have hpl := pkL_len code mark sf.down n x y text
  have HE := Lib.hid (fun W v (hf : Fr0 w W) (hr : RdB W v (flipL (pkL code mark sf.down n x y text) 0 1)) => show Calls Try.prog 11 #[.pointer (some ⟨pt, 0, none⟩), .int .i64 go, .int .i64 7, v] W (fun e w' => e = .returned (.tuple #[.slice none 0 0, .bool false, .int .i64 60]) ∧ Fr0 W w') by
    have ho : openP code mark (flipL (pkL code mark sf.down n x y text) 0 1) = ((false, 0), [], 60) := by
      unfold pkL
      exact openP_flip code mark (by rw [List.length_append, List.length_append, fixForm_len, fixForm_len]; omega) (by decide) (by decide)
    have he : lkErr st.down (openP code mark (flipL (pkL code mark sf.down n x y text) 0 1)) = 60 := by rw [ho]; unfold lkErr; rw [if_pos (by decide)]
    have h2 := hear_err (now := go) (frm := 7) (hT.fr0 hf) hmt hok hkt hc hm hr (by rw [he]; decide)
    rw [he] at h2
    exact h2)
  have SA := Lib.hid (fun W q (hf : Fr0 w W) (h' : LkV W q st) => same_any (hT.fr0 hf) h' hmt)
  have SB := Lib.hid (fun W q (hf : Fr0 w W) (h' : LkV W q sf) => same_any (hF.fr0 hf) h' hmf)
  obtain ⟨j, hj⟩ : ∃ j, j = mp - 1 := ⟨_, rfl⟩
  obtain ⟨xb, hxb⟩ : ∃ x2, x2 = (pkL code mark sf.down n x y text).getD j 0 := ⟨_, rfl⟩
  have HCP := Lib.hid (show flipL (pkL code mark sf.down n x y text) 0 1 = (pkL code mark sf.down n x y text).set j (xb ^^^ 1) by unfold flipL; rw [hpl, hxb, hj, hmp]; rfl)
  obtain ⟨xc, hxc⟩ : ∃ z, z = xb ^^^ 1 := ⟨_, rfl⟩
  rw [← hxc] at HCP
  have hPL : (pkL code mark sf.down n x y text).length = mp := by rw [hpl, hmp]
  obtain ⟨pk, hpk⟩ : ∃ p, p = pkL code mark sf.down n x y text := ⟨_, rfl⟩
  rw [← hpk] at hb HE HCP hPL hxb
  rw [HCP.out] at HE
  rw [← hnt] at HA
  have HB := Lib.hid hb
  have HPL := Lib.hid hPL
  have HX := Lib.hid hxb
  have HTV := Lib.hid (show RdB w (.slice At nt ct) text by rw [hnt]; exact htv)
  have HNT := Lib.hid hnt
  have q2 : IntKind.i64.wrap ((mp : Int) - 1) = (j : Int) := by rw [show (mp : Int) - 1 = (j : Int) by omega]; exact IntWalk.i64_in _ (by omega)
  have q4 : bits .xor .u8 (xb.toNat : Int) 1 = (xc.toNat : Int) := by rw [hxc]; exact xorU xb 1
  have j0 : (0 : Int) ≤ (j : Int) := by omega
  have j1 : (j : Int) < (mp : Int) := by omega
  have HJ := Lib.hid (show j < mp by omega)
  have HMP := Lib.hid (show mp ≤ 2000 by omega)
  have F0 := Lib.hid ((Fr0.refl w).alloc (.cells #[.bool up, .slice At nt ct, .int .i64 go, .int .i64 takes, .int .i64 wh] 73))
  have B0 := Lib.hid (Blk.new w #[.bool up, .slice At nt ct, .int .i64 go, .int .i64 takes, .int .i64 wh] 73)
  rw [← hnt]
  clear hF hT hmf hmt hkf hkt hc hm hb hmp hd hold hn hl hx hy hgo htv hok hnt hpl hj hxb hPL hpk HCP hxc
  go_enter Try.func23, Try.ntmps23
  go_wp2_with (first
    | (have _q := G9; go_at_call 24; refine (SB.out _ _ (Fr0.trans F2.out G9.out) ((CA2.out).fr0 G9.out)).mono ?_; rintro e w10 ⟨rfl, hf⟩; have FZ := Lib.hid (Fr0.trans (Fr0.trans F2.out G9.out) hf); clear hf)
    | (have _q := G8; go_at_call 24; refine (SA.out _ _ (Fr0.trans F2.out G8.out) ((CC2.out).fr0 G8.out)).mono ?_; rintro e w9 ⟨rfl, hf⟩; have G9 := Lib.hid (Fr0.trans G8.out hf); clear hf)
    | (have _q := G7; go_at_call 11; refine (HW.out _ (Fr0.trans F2.out G7.out)).mono ?_; rintro e w8 ⟨rfl, hf⟩; have G8 := Lib.hid (Fr0.trans G7.out hf); clear hf)
    | (have _q := G6; go_at_call 11; refine (HE.out _ _ (Fr0.trans F2.out G6.out) (S6.out).rd).mono ?_; rintro e w7 ⟨rfl, hf⟩; have G7 := Lib.hid (Fr0.trans G6.out hf); have c2 := ((B2.out).fr0 G7.out).cell 2 rfl; clear hf)
    | (have _q := G4; at_builtin; refine list_append_sl (base := w2.heap.size) (d := []) (e := pk) rfl _ _ rfl (SlO.new0 (G4.out).size) rfl (by have := (G4.out).size; rw [World.size_alloc]; omega) ((HB.out).fr0 ((Fr0.trans F2.out G4.out).alloc _)) rfl (by rw [HPL.out]; simp; have := HMP.out; omega) ?_; intro A5 c5 w5 hS hF hK; have S5 : SlO w2.heap.size w5 (.slice A5 mp c5) pk := (by have h := hS; rw [List.nil_append, HPL.out] at h; exact h); have G5 : Fr0 w2 w5 := ((SlO.new0 (G4.out).size).thenFr ((G4.out).alloc _) hF); rw [show ([] : List UInt8).length + pk.length = mp from by rw [HPL.out]; exact Nat.zero_add _]; obtain ⟨g, off, rfl, hjc, hcl, hfz, hput⟩ := S5.putL (j := j) (by rw [HPL.out]; exact HJ.out); rw [← HX.out] at hcl; obtain ⟨hs6, hf6⟩ := hput xc; have S6 := Lib.hid hs6; have G6 := Lib.hid (S5.thenFr G5 hf6); have c2 := ((B2.out).fr0 G6.out).cell 2 rfl; clear hS hF hK S5 G5 hput hs6 hf6)
    | (have _q := G3; go_at_call 24; refine (SA.out _ _ (Fr0.trans F2.out G3.out) ((CC2.out).fr0 G3.out)).mono ?_; rintro e w4 ⟨rfl, hf⟩; have G4 := Lib.hid (Fr0.trans G3.out hf); clear hf)
    | (have _q := CC2; go_at_call 11; refine (HA.out _ F2.out).mono ?_; rintro e w3 ⟨A3, c3, rfl, ho, hf⟩; have G3 := Lib.hid hf; have c1 := ((B2.out).fr0 hf).cell 1 rfl; have cs1 := conv_ownN HNT.out.symm (RdB.of_own ho); have cs2 := conv_ownN HNT.out.symm ((HTV.out).fr0 (Fr0.trans F2.out hf)); clear hf ho)
    | (have _q := CA1; go_at_call 18; refine (CT.out _ F1.out).mono ?_; rintro e w2 ⟨pc, rfl, hL, hl, hf⟩; have F2 := Lib.hid (Fr0.trans F1.out hf); have CC2 := Lib.hid hL; have CA2 := Lib.hid ((CA1.out).fr0 hf); have B2 := Lib.hid ((B1.out).fr0 hf); have c2 := (B2.out).cell 2 rfl; clear hL hl hf)
    | (go_at_call 18; refine (CF.out _ F0.out).mono ?_; rintro e w1 ⟨pa, rfl, hL, hl, hf⟩; have F1 := Lib.hid (Fr0.trans F0.out hf); have CA1 := Lib.hid hL; have B1 := Lib.hid ((B0.out).fr0 hf); clear hL hl hf))
  go_ret
  exact ⟨rfl, FZ.out⟩
end Go.Proofs.Ytgcjbbliaelkcaa
