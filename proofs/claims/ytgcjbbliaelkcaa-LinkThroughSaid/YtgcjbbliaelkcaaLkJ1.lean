/- A text turned by a stream's blocks. Conditions stand in the statements. -/
import Derived.Test.YtgcjbbliaelkcaaAesLaw
import Derived.Test.YtgcjbbliaelkcaaAesArr
import Derived.Test.YtgcjbbliaelkcaaSl
import Derived.Laws.IdiomCopy
import Derived.Test.YtgcjbbliaelkcaaAesMix
import Derived.Test.YtgcjbbliaelkcaaStepsG
import Derived.Test.YtgcjbbliaelkcaaAesAdd
import Derived.Test.YtgcjbbliaelkcaaRows
import Derived.Test.YtgcjbbliaelkcaaBytes
import Derived.KernelRfl
import Derived.Test.YtgcjbbliaelkcaaWireLaw
import Derived.WalkKit
import Derived.WalkSpells
import Derived.BigQuiet
import Derived.Deep.QuietTactic
import Derived.Lib.Hide
import Derived.Handy
import Derived.Deep.AppendSrc
import Derived.Maps.AppendAt
import Derived.Lib.AppendZeros
import Derived.Test.YtgcjbbliaelkcaaArrRd
import Derived.Test.YtgcjbbliaelkcaaStepSl
import Derived.Test.YtgcjbbliaelkcaaShaSumLaw
import Derived.Test.YtgcjbbliaelkcaaSealWord
import Derived.RangeFuncNested
import Derived.RangeFuncLeaves
import Derived.RangeFuncCalls
import Derived.OrdersIn
import Derived.StillTail
import Derived.StillTailTactics
import Derived.TacticsInMore
import Derived.LoopNIn
import Derived.LoopIn
import Derived.OwnWalkIn
import Derived.Shelf.RegionOpen
import Derived.Test.YtgcjbbliaelkcaaBase
import Derived.Laws.MakeOwn
namespace Go.Proofs.Ytgcjbbliaelkcaa

theorem ksL_at (key : List UInt8) {p : Nat} (h : p < 176) : (ksL key).getD p 0 = kB key p (kS key p) := by
  obtain ⟨d, hd⟩ : ∃ d, 176 = p + 1 + d := ⟨176 - (p + 1), by omega⟩
  have := kS_at key p d
  rw [← hd] at this
  exact this
theorem ksL_low (key : List UInt8) {p j : Nat} (h : p ≤ 176) (hj : j < p) : (kS key p).getD j 0 = (ksL key).getD j 0 := kS_low key hj (by omega)
/-- The four bytes that a round's first column takes in. -/
def hdL (key : List UInt8) (i : Nat) : List UInt8 :=
  [swp ((ksL key).getD (16 * (i - 1) + 13) 0) ^^^ pwU (i - 1), swp ((ksL key).getD (16 * (i - 1) + 14) 0), swp ((ksL key).getD (16 * (i - 1) + 15) 0), swp ((ksL key).getD (16 * (i - 1) + 12) 0)]
theorem ksL_head (key : List UInt8) {i k : Nat} (h1 : 1 ≤ i) (hi : i < 11) (hk : k < 4) : (ksL key).getD (16 * i + k) 0 = (ksL key).getD (16 * (i - 1) + k) 0 ^^^ (hdL key i).getD k 0 := by
  rw [ksL_at key (by omega), kB, if_neg (by omega), if_pos (by omega), ksL_low key (by omega) (by omega), ksL_low key (by omega) (by omega)]
  have e1 : 16 * i + k - 16 = 16 * (i - 1) + k := by omega
  have e2 : (16 * i + k) / 16 = i := by omega
  rw [e1, e2]
  rcases (by omega : k = 0 ∨ k = 1 ∨ k = 2 ∨ k = 3) with rfl | rfl | rfl | rfl
  · rw [if_pos (by omega), show i * 16 - 4 + (16 * i + 0 + 1) % 4 = 16 * (i - 1) + 13 by omega]; rfl
  · rw [if_neg (by omega), show i * 16 - 4 + (16 * i + 1 + 1) % 4 = 16 * (i - 1) + 14 by omega]; simp [hdL]
  · rw [if_neg (by omega), show i * 16 - 4 + (16 * i + 2 + 1) % 4 = 16 * (i - 1) + 15 by omega]; simp [hdL]
  · rw [if_neg (by omega), show i * 16 - 4 + (16 * i + 3 + 1) % 4 = 16 * (i - 1) + 12 by omega]; simp [hdL]
theorem ksL_rest (key : List UInt8) {i k : Nat} (h1 : 1 ≤ i) (hi : i < 11) (hk : 4 ≤ k) (hk2 : k < 16) : (ksL key).getD (16 * i + k) 0 = (ksL key).getD (16 * (i - 1) + k) 0 ^^^ (ksL key).getD (16 * i + k - 4) 0 := by
  rw [ksL_at key (by omega), kB, if_neg (by omega), if_neg (by omega), ksL_low key (by omega) (by omega), ksL_low key (by omega) (by omega), show 16 * i + k - 16 = 16 * (i - 1) + k by omega]
theorem ksL_take {key : List UInt8} (h : key.length = 16) : (ksL key).take 16 = key := by
  apply List.ext_getElem (by rw [List.length_take, ksL_len]; omega)
  intro i h1 h2
  have hi : i < 16 := by omega
  have e := ksL_at key (p := i) (by omega)
  rw [kB, if_pos hi] at e
  rw [List.getElem_take]
  simpa [List.getD, ksL_len, hi, h2, show i < 176 by omega] using e
theorem fill_key {key : List UInt8} (h : key.length = 16) : key ++ List.replicate (176 - key.length) 0 = fillU (ksL key) 176 16 := by
  unfold fillU
  rw [ksL_take h, h]
theorem rkL_len {ks : List UInt8} (h : ks.length = 176) {i : Nat} (hi : i < 11) : (rkL ks i).length = 16 := by
  unfold rkL; rw [List.length_take, List.length_drop]; omega
theorem rkL_at {ks : List UInt8} {i k : Nat} (hk : k < 16) : (rkL ks i).getD k 0 = ks.getD (16 * i + k) 0 := by
  unfold rkL
  rw [List.getD, List.getD, List.getElem?_take, if_pos hk, List.getElem?_drop]
theorem fill_row {ks : List UInt8} (h : ks.length = 176) {i p : Nat} (hi : 16 * i + 16 ≤ p) (hp : p ≤ 176) : ((fillU ks 176 p).drop (16 * i)).take 16 = rkL ks i := by
  apply List.ext_getElem (by rw [List.length_take, List.length_drop, fillU_len h hp, rkL_len h (by omega)]; omega)
  intro k h1 h2
  have hk : k < 16 := by rw [rkL_len h (by omega)] at h2; exact h2
  have e1 := rkL_at (ks := ks) (i := i) hk
  have e2 := fillU_low h hp (show 16 * i + k < p by omega)
  have hl := fillU_len h hp
  simp only [List.getElem_take, List.getElem_drop]
  have e3 : (fillU ks 176 p)[16 * i + k]'(by omega) = (fillU ks 176 p).getD (16 * i + k) 0 := by simp [List.getD, hl, show 16 * i + k < 176 by omega]
  have e4 : (rkL ks i)[k] = (rkL ks i).getD k 0 := by simp [List.getD, h2]
  rw [e3, e4, e1, e2]
end Go.Proofs.Ytgcjbbliaelkcaa
namespace Go.Proofs.Ytgcjbbliaelkcaa
open Go.RowKit
theorem wp_copy_rd {P : Program} {o : Oper} {a : Act} {w : World} {K : Act → World → Prop} {Q : Exit → Act → World → Prop} (d s : Operand) (dT sT : TypeId)
    (ho : o.op = .call { callee := .builtin .copy, args := #[d, s], argTypes := #[dT, sT] }) (elem : TypeId) (hu : P.underlying dT = some (.slice elem)) (hsz : (P.info? elem).map (·.size) = some 1)
    {g off n c : Nat} (hd : a.eval d = .slice (some ⟨g, off, none⟩) n c) {v2 : Value} {e : List UInt8} (hs : a.eval s = v2) (hr : RdB w v2 e) {cur : Array Value} {t : TypeId} (hg : Blk w g cur t) (hfit : off + (e.take n).length ≤ cur.size)
    (h : ∀ W1, Blk W1 g (putAt cur off (byts (e.take n))) t → Fr1 g w W1 → K (a.put o.dst (goInt (e.take n).length)) W1) : Oper.wp P o a w K Q := by
  obtain ⟨A2, c2, rfl, hnc, hcm, hnone⟩ := hr.form
  have hl : (byts (e.take n)).length = (e.take n).length := by rw [byts_len, Nat.mul_one]
  have hrun : (Builtin.copy_ #[dT, sT] o.type #[.slice (some ⟨g, off, none⟩) n c, .slice A2 e.length c2]).run P w = .ok (goInt (e.take n).length) (w.setCells g off (byts (e.take n))) := by
    cases A2 with
    | none =>
      have hc2 : c2 = 0 := hnone rfl
      have he : e = [] := List.eq_nil_of_length_eq_zero (by omega)
      subst he
      have := run_copy_none (P := P) w dT sT o.type elem (some ⟨g, off, none⟩) none n c 0 c2 hu hsz (by simp)
      simpa [World.setCells, byts] using this
    | some ad =>
      have := run_copy_cells (P := P) w dT sT o.type elem g off n c ad e.length c2 (byts (e.take n)) hu hsz (by rw [hl, List.length_take]; exact Nat.min_comm _ _)
        (fun j v hv => Rd.news hr j v (by
          rw [← Nat.mul_one n, ← byts_take] at hv
          rw [Nat.mul_one, List.getElem?_take] at hv
          split at hv
          · exact hv
          · cases hv))
        (fun j hj => by rw [hg.cell _ (Array.getElem?_eq_getElem (by omega))]; rfl) (fun j _ => hg.free _) (byts_one _)
      rw [hl] at this
      exact this
  unfold Oper.wp execOp
  simp only [ho, resolve, invoke, builtin, Sem.run_bind, Sem.run_pure, Result.andThen_ok, List.map_toArray, List.map_cons, List.map_nil, hd, hs, hrun]
  exact h _ (hg.setCells _ _) (Fr1.setCells _ _ (Fr1.refl g w))
theorem list_copy_rd {P : Program} {ops : Array Oper} {rest : List Oper} {o : Oper} {a : Act} {w : World} {Q : Exit → Act → World → Prop} (hgd : o.guard = none) (d s : Operand) (dT sT : TypeId)
    (ho : o.op = .call { callee := .builtin .copy, args := #[d, s], argTypes := #[dT, sT] }) (elem : TypeId) (hu : P.underlying dT = some (.slice elem)) (hsz : (P.info? elem).map (·.size) = some 1)
    {g off n c : Nat} (hd : a.eval d = .slice (some ⟨g, off, none⟩) n c) {v2 : Value} {e : List UInt8} (hs : a.eval s = v2) (hr : RdB w v2 e) {cur : Array Value} {t : TypeId} (hg : Blk w g cur t) (hfit : off + (e.take n).length ≤ cur.size)
    (h : ∀ W1, Blk W1 g (putAt cur off (byts (e.take n))) t → Fr1 g w W1 → wpList P ops Q rest (a.put o.dst (goInt (e.take n).length)) W1) : wpList P ops Q (o :: rest) a w :=
  wpList_plain hgd fun _ hK => wp_copy_rd d s dT sT ho elem hu hsz hd hs hr hg hfit (fun W1 h1 h2 => hK _ _ (h W1 h1 h2))
/-- Bytes laid at the head of a row of noughts. -/
theorem putAt_zeros {n : Nat} {d : List UInt8} (h : d.length ≤ n) : putAt (byts (List.replicate n 0)).toArray 0 (byts d) = (byts (d ++ List.replicate (n - d.length) 0)).toArray := by
  apply Array.ext_getElem?
  intro i
  have hl : (byts d).length = d.length := by rw [byts_len, Nat.mul_one]
  by_cases hi : i < d.length
  · have := putAt_in (byts d) (byts (List.replicate n 0)).toArray 0 i (by omega) (by rw [hl]; simp [byts]; omega)
    rw [Nat.zero_add] at this
    rw [this, List.getElem?_toArray, byts_app, List.getElem?_append_left (by omega)]
  · rw [putAt_out _ _ _ _ (.inr (by omega)), List.getElem?_toArray, List.getElem?_toArray, byts_app, List.getElem?_append_right (by omega), hl]
    simp only [byts, List.map_replicate, List.getElem?_replicate]
    by_cases h2 : i < n
    · rw [if_pos h2, if_pos (by omega)]
    · rw [if_neg h2, if_neg (by omega)]
end Go.Proofs.Ytgcjbbliaelkcaa
set_option linter.unusedSimpArgs false
set_option linter.unusedVariables false
namespace Go.Proofs.Ytgcjbbliaelkcaa
open Go.RowKit

theorem list_store_part {P : Program} {ops : Array Oper} {rest : List Oper} {o : Oper} {a : Act} {w : World} {Q : Exit → Act → World → Prop} (hgd : o.guard = none) (ty : TypeId) (x y : Operand) (ho : o.op = .store ty x y) (g off : Nat) (cells : Array Value) (hx : a.eval x = .pointer (some ⟨g, off, none⟩)) (hy : a.eval y = .agg cells)
    (t : TypeId) (old : Array Value) (hg : Blk w g old t) (hin : off + cells.size ≤ old.size) (hi : (P.info? ty).map (·.size) = some cells.size) (h1 : cells.all (·.oneCell') = true)
    (h : ∀ W1, Blk W1 g (putAt old off cells.toList) t → Fr1 g w W1 → wpList P ops Q rest (a.put o.dst undef) W1) : wpList P ops Q (o :: rest) a w :=
  wpList_plain hgd fun _ hK => wp_store_part ty x y ho g off cells hx hy t old hg hin hi h1 (fun W1 hB hF => hK _ _ (h W1 hB hF))
def z176A : Array Value := (byts (List.replicate 176 0)).toArray
theorem z176_run (W : World) : (Instr.alloc 141 true (.tuple #[])).run Try.prog W = .ok (.pointer (some ⟨W.heap.size, 0, none⟩)) (W.alloc (.cells z176A 141)) := by kernel_rfl
theorem z4_run (W : World) : (Instr.alloc 146 true (.tuple #[])).run Try.prog W = .ok (.pointer (some ⟨W.heap.size, 0, none⟩)) (W.alloc (.cells (byts [0, 0, 0, 0]).toArray 146)) := by kernel_rfl
set_option maxHeartbeats 8000000 in
set_option maxRecDepth 100000 in
theorem arounds_any {key : List UInt8} {gs : Nat} {w : World} (hk : key.length = 16) (hs : Blk w gs (byts sbox).toArray 138) : Calls Try.prog 74 #[.agg (byts key).toArray, .pointer (some ⟨gs, 0, none⟩)] w fun e w' => e = .returned (.agg (byts (ksL key)).toArray) ∧ Fr0 w w' := by
  have TL := Lib.hid (ksL_len key)
  have TH := Lib.hid (fun i k => ksL_head key (i := i) (k := k))
  have TR := Lib.hid (fun i k => ksL_rest key (i := i) (k := k))
  have TK := Lib.hid (fill_key hk)
  have HD := Lib.hid (fun i => show hdL key i = [swp ((ksL key).getD (16 * (i - 1) + 13) 0) ^^^ pwU (i - 1), swp ((ksL key).getD (16 * (i - 1) + 14) 0), swp ((ksL key).getD (16 * (i - 1) + 15) 0), swp ((ksL key).getD (16 * (i - 1) + 12) 0)] from rfl)
  have HSW := Lib.hid (fun x => show swp x = sbox.getD x.toNat 0 from rfl)
  have HPW := Lib.hid (fun n => show pwU (n + 1) = tms (pwU n) 2 from rfl)
  have HP0 := Lib.hid (show pwU 0 = 1 from rfl)
  have SL := Lib.hid sbox_len
  have HSX := Lib.hid hs
  have HI := Lib.hid (show (Try.prog.info? 141).map (·.size) = some (byts (ksL key)).toArray.size by rw [byts_size, TL.out]; kernel_rfl)
  have HZ := Lib.hid (show z176A.size = (byts (ksL key)).toArray.size by rw [byts_size, TL.out]; rfl)
  have ha8 := byts_all (ksL key)
  have hak := byts_all key
  have HIK := Lib.hid (a16_info hk)
  have HKS := Lib.hid (show (byts key).toArray.size = 16 by rw [byts_size, hk])
  have HKP := Lib.hid (putAt_zeros (n := 176) (d := key) (by omega))
  have B0 := Lib.hid (Blk.new w (byts key).toArray 22)
  have HRUN := Lib.hid (fun W => z176_run W)
  have HRUN16 := Lib.hid (fun W => z16_run W)
  have HRUN4 := Lib.hid (fun W => z4_run W)
  obtain ⟨T, hT⟩ : ∃ T, T = ksL key := ⟨_, rfl⟩
  obtain ⟨H, hH⟩ : ∃ T, T = hdL key := ⟨_, rfl⟩
  obtain ⟨sb, hsb⟩ : ∃ T, T = sbox := ⟨_, rfl⟩
  obtain ⟨pw, hpw⟩ : ∃ T, T = pwU := ⟨_, rfl⟩
  obtain ⟨z, hz⟩ : ∃ z, z = z176A := ⟨_, rfl⟩
  obtain ⟨z16, hz16⟩ : ∃ z, z = z16A := ⟨_, rfl⟩
  obtain ⟨z4, hz4⟩ : ∃ z, z = (byts [0, 0, 0, 0]).toArray := ⟨_, rfl⟩
  obtain ⟨ck, hck⟩ : ∃ c, c = (byts key).toArray := ⟨_, rfl⟩
  rw [← hT] at TL TH TR TK ha8 HI HZ HD ⊢
  rw [← hH] at TH HD
  rw [← hsb] at HSX SL HSW
  rw [← hpw] at HD HPW HP0
  have HZZ := Lib.hid (hz.trans (show z176A = (byts (List.replicate 176 0)).toArray from rfl))
  rw [← hz] at HRUN HZ
  rw [← hz16] at HRUN16
  have HZ16 := Lib.hid (show z16.size = 16 by rw [hz16]; rfl)
  have HZ4 := Lib.hid (show z4.size = 4 by rw [hz4]; rfl)
  rw [← hz4] at HRUN4
  rw [← hck] at B0 HIK HKS hak ⊢
  have HCK := Lib.hid hck
  clear hT hH hz hz16 hz4 hck hk hsb hs hpw
  go_enter Try.func74, Try.ntmps74
  go_upto_region 5 with (first
    | (have _q := Z5; refine list_store_part rfl 22 _ _ rfl g5 0 ck rfl rfl 141 z Z5.out (by rw [HKS.out, HZZ.out, byts_size, List.length_replicate]; decide) HIK.out hak ?_; intro w6 hB hF; have P6 := Lib.hid hB; have F6 := Lib.hid hF; clear hB hF)
    | (have _q := Z4; refine list_alloc_blk rfl 141 rfl z HRUN.out ?_; intro g5 w5 hB hF hl; have Z5 := Lib.hid hB; have F5 := Lib.hid hF; have L5 := Lib.hid hl; have K5 := Lib.hid ((K4.out).fr0 hF); clear hB hF hl)
    | (refine list_alloc_blk rfl 141 rfl z HRUN.out ?_; intro g4 w4 hB hF hl; have Z4 := Lib.hid hB; have FF := Lib.hid hF; have L4 := Lib.hid hl; have K4 := Lib.hid ((B0.out).fr0 hF); clear hB hF hl)
    | (refine list_load_blk rfl 22 _ rfl w.heap.size rfl 22 ck K5.out _ Try.underlying22 rfl HIK.out ?_))
  have hl4 := L4.out
  have hl5 := L5.out
  have hz4 := (Z4.out).lt
  have hsl := (HSX.out).lt
  have hsz := (FF.out).size
  simp only [World.size_alloc] at hl4 hsz
  have n45 : g4 ≠ g5 := by omega
  have ns5 : gs ≠ g5 := by omega
  have LG4 := Lib.hid (show w.heap.size ≤ g4 by omega)
  have LG5 := Lib.hid (show w.heap.size ≤ g5 by omega)
  have FW := Lib.hid (show Fr0 w w6 from Fr0.new (Fr0.trans (Fr0.trans ((Fr0.refl w).alloc _) FF.out) F5.out) F6.out LG5.out)
  have S6 := Lib.hid (((HSX.out).fr0 (Fr0.trans (Fr0.trans ((Fr0.refl w).alloc _) FF.out) F5.out)).fr1 F6.out ns5)
  have Z6 := Lib.hid (((Z4.out).fr0 F5.out).fr1 F6.out n45)
  have P6' := Lib.hid (show Blk w6 g5 (byts (fillU T 176 16)).toArray 141 by
    have h := P6.out
    rw [HZZ.out, HCK.out, List.toList_toArray, HKP.out, TK.out] at h
    exact h)
  clear hl4 hl5 hz4 hsl hsz FF F5 F6 K4 K5 Z4 Z5 P6 B0 L4 L5 HSX _q
  go_loopw [6, 7] (fun v6 v7 wr => ∃ j : Nat, j ≤ 10 ∧ v7 = .int .i64 ((j : Int) + 1) ∧ v6 = .int .u8 ((pw j).toNat : Int) ∧ Blk wr gs (byts sb).toArray 138 ∧ Blk wr g5 (byts (fillU T 176 (16 * (j + 1)))).toArray 141 ∧ Blk wr g4 z 141 ∧ Fr0 w wr) (fun _ v7 _ => 11 - (intOf v7).toNat)
  case atStart => exact ⟨0, by omega, rfl, by rw [HP0.out]; rfl, S6.out, P6'.out, Z6.out, FW.out⟩
  case round =>
    obtain ⟨j, hj, rfl, rfl, hS, hT, hZ, hF⟩ := hrel
    clear S6 P6' Z6 FW
    have KS := Lib.hid hS
    have KT := Lib.hid hT
    have KZ := Lib.hid hZ
    have HF := Lib.hid hF
    by_cases hlt : j < 10
    · have hr16 := rkL_len TL.out (show j < 11 by omega)
      have hrow := hT.range (16 * j) 16
      rw [fill_row TL.out (by omega) (by omega)] at hrow
      have HRW := Lib.hid (show wr.rangeAt g5 (j * 16) (byts (rkL T j)) by rw [Nat.mul_comm]; exact hrow)
      have HIR := Lib.hid (show (Try.prog.info? 22).map (·.size) = some (byts (rkL T j)).length by rw [byts_len, hr16]; kernel_rfl)
      have HIC := Lib.hid (a16_info hr16)
      have HZC := Lib.hid (show z16.size = (byts (rkL T j)).toArray.size by rw [HZ16.out, byts_size, hr16])
      have hrc := byts_all (rkL T j)
      have RA := Lib.hid (fun k (h : k < 16) => rkL_at (ks := T) (i := j) h)
      obtain ⟨rw, hrw⟩ : ∃ r, r = rkL T j := ⟨_, rfl⟩
      rw [← hrw] at HRW HIR HIC HZC hrc RA hr16
      obtain ⟨cr, hcr⟩ : ∃ r, r = (byts rw).toArray := ⟨_, rfl⟩
      rw [← hcr] at HIC HZC hrc
      have HCR := Lib.hid hcr
      have HRL := Lib.hid hr16
      have e1 : IntKind.i64.wrap ((j : Int) + 1 - 1) = (j : Int) := by rw [IntWalk.i64_in _ (by omega)]; omega
      have e2 : (j : Int) + 1 - 1 = (j : Int) := by omega
      have i0 : (0 : Int) ≤ (j : Int) := by omega
      have i1 : (j : Int) < 11 := by omega
      have i2 : (j : Int) + 1 < 11 := by omega
      clear hS hT hZ hF hrow hrw hcr hr16
      go_upto_region 8 with (first
        | (refine wpList_load_mid rfl 22 _ rfl g5 (j * 16) rfl (byts rw) _ HRW.out Try.underlying22 rfl HIR.out ?_; rw [← HCR.out])
        | (have _q := R8; refine list_store_blk rfl 22 _ _ rfl g8 cr rfl rfl 22 z16 R8.out HIC.out HZC.out hrc ?_; intro w9 hB hF; have R9 := Lib.hid hB; have F9 := Lib.hid hF; clear hB hF)
        | (refine list_alloc_blk rfl 22 rfl z16 HRUN16.out ?_; intro g8 w8 hB hF hl; have R8 := Lib.hid hB; have F8 := Lib.hid hF; have L8 := Lib.hid hl; clear hB hF hl))
      have GF := Lib.hid (Fr0.new F8.out F9.out L8.out)
      have KS9 := Lib.hid ((KS.out).fr0 GF.out)
      have KT9 := Lib.hid ((KT.out).fr0 GF.out)
      have KZ9 := Lib.hid ((KZ.out).fr0 GF.out)
      have HF9 := Lib.hid (Fr0.trans HF.out GF.out)
      have hR := R9.out
      rw [HCR.out] at hR
      have hS := KS9.out
      have c12 := hR.u8 (i := 12) (by rw [HRL.out]; decide)
      have c13 := hR.u8 (i := 13) (by rw [HRL.out]; decide)
      have c14 := hR.u8 (i := 14) (by rw [HRL.out]; decide)
      have c15 := hR.u8 (i := 15) (by rw [HRL.out]; decide)
      have HDJ := Lib.hid (show H (j + 1) = [sb.getD (rw.getD 13 0).toNat 0 ^^^ pw j, sb.getD (rw.getD 14 0).toNat 0, sb.getD (rw.getD 15 0).toNat 0, sb.getD (rw.getD 12 0).toNat 0] by
        rw [HD.out (j + 1), RA.out 12 (by omega), RA.out 13 (by omega), RA.out 14 (by omega), RA.out 15 (by omega), HSW.out, HSW.out, HSW.out, HSW.out]; rfl)
      obtain ⟨x12, h12⟩ : ∃ x, x = rw.getD 12 0 := ⟨_, rfl⟩
      obtain ⟨x13, h13⟩ : ∃ x, x = rw.getD 13 0 := ⟨_, rfl⟩
      obtain ⟨x14, h14⟩ : ∃ x, x = rw.getD 14 0 := ⟨_, rfl⟩
      obtain ⟨x15, h15⟩ : ∃ x, x = rw.getD 15 0 := ⟨_, rfl⟩
      rw [← h12] at c12 HDJ
      rw [← h13] at c13 HDJ
      rw [← h14] at c14 HDJ
      rw [← h15] at c15 HDJ
      have l12 := x12.toNat_lt
      have l13 := x13.toNat_lt
      have l14 := x14.toNat_lt
      have l15 := x15.toNat_lt
      have s12 := hS.u8 (i := x12.toNat) (by rw [SL.out]; exact l12)
      have s13 := hS.u8 (i := x13.toNat) (by rw [SL.out]; exact l13)
      have s14 := hS.u8 (i := x14.toNat) (by rw [SL.out]; exact l14)
      have s15 := hS.u8 (i := x15.toNat) (by rw [SL.out]; exact l15)
      obtain ⟨y12, k12⟩ : ∃ x, x = sb.getD x12.toNat 0 := ⟨_, rfl⟩
      obtain ⟨y13, k13⟩ : ∃ x, x = sb.getD x13.toNat 0 := ⟨_, rfl⟩
      obtain ⟨y14, k14⟩ : ∃ x, x = sb.getD x14.toNat 0 := ⟨_, rfl⟩
      obtain ⟨y15, k15⟩ : ∃ x, x = sb.getD x15.toNat 0 := ⟨_, rfl⟩
      rw [← k12] at s12 HDJ
      rw [← k13] at s13 HDJ
      rw [← k14] at s14 HDJ
      rw [← k15] at s15 HDJ
      obtain ⟨m, hm⟩ : ∃ x, x = pw j := ⟨_, rfl⟩
      have HMJ := Lib.hid hm
      rw [← hm] at HDJ ⊢
      have hx := xorU y13 m
      obtain ⟨h0, hh0⟩ : ∃ x, x = y13 ^^^ m := ⟨_, rfl⟩
      rw [← hh0] at hx HDJ
      have b12 : (x12.toNat : Int) < 256 := by omega
      have b13 : (x13.toNat : Int) < 256 := by omega
      have b14 : (x14.toNat : Int) < 256 := by omega
      have b15 : (x15.toNat : Int) < 256 := by omega
      have HI4 := Lib.hid (show (Try.prog.info? 146).map (·.size) = some (byts [h0, y14, y15, y12]).toArray.size by rw [byts_size]; kernel_rfl)
      have HZ4' := Lib.hid (show z4.size = (byts [h0, y14, y15, y12]).toArray.size by rw [HZ4.out, byts_size]; rfl)
      have hr4 := byts_all [h0, y14, y15, y12]
      have C12 := Lib.hid (show w9.drew.cell? ⟨g8, 12, none⟩ = some (.int .u8 (x12.toNat : Int)) from c12)
      have S12 := Lib.hid (show w9.drew.cell? ⟨gs, x12.toNat, none⟩ = some (.int .u8 (y12.toNat : Int)) from s12)
      have C13 := Lib.hid (show w9.drew.cell? ⟨g8, 13, none⟩ = some (.int .u8 (x13.toNat : Int)) from c13)
      have S13 := Lib.hid (show w9.drew.cell? ⟨gs, x13.toNat, none⟩ = some (.int .u8 (y13.toNat : Int)) from s13)
      have C14 := Lib.hid (show w9.drew.cell? ⟨g8, 14, none⟩ = some (.int .u8 (x14.toNat : Int)) from c14)
      have S14 := Lib.hid (show w9.drew.cell? ⟨gs, x14.toNat, none⟩ = some (.int .u8 (y14.toNat : Int)) from s14)
      have C15 := Lib.hid (show w9.drew.cell? ⟨g8, 15, none⟩ = some (.int .u8 (x15.toNat : Int)) from c15)
      have S15 := Lib.hid (show w9.drew.cell? ⟨gs, x15.toNat, none⟩ = some (.int .u8 (y15.toNat : Int)) from s15)
      have HS9 := Lib.hid ((KS9.out).drew)
      have HT9 := Lib.hid ((KT9.out).drew)
      have HZ9 := Lib.hid ((KZ9.out).drew)
      have HR9 := Lib.hid ((R9.out).drew)
      have HF9 := Lib.hid ((HF9.out).drew)
      clear c12 c13 c14 c15 s12 s13 s14 s15
      clear h12 h13 h14 h15 k12 k13 k14 k15 hm hh0 hR hS KS KT KZ HF GF F8 F9 L8 R8
      refine wp_region_held_drew (S := (fun W => Fr0 w9.drew W)) (by kernel_rfl) (Fr0.refl _) (fun hHeld => ?_)
      generalize w9.drew = wq at *
      have _hI : True := trivial
      clear _hI
      refine takeH (i := 0) rfl (by kernel_rfl) (by kernel_rfl) (by kernel_rfl) (fun _ _ _ h => h) (.inl ⟨rfl, fun W hW => (by go_simp; try rfl)⟩) (Fr0.refl wq) ?_
      try simp only [Act.put, List.setIfInBounds_toArray, List.set_cons_zero, List.set_cons_succ]
      have _hI : True := trivial
      clear _hI
      refine takeH (i := 1) rfl (by kernel_rfl) (by kernel_rfl) (by kernel_rfl) (fun _ _ _ h => h) (.inl ⟨rfl, fun W hW => (by go_simp; try rfl)⟩) (Fr0.refl wq) ?_
      try simp only [Act.put, List.setIfInBounds_toArray, List.set_cons_zero, List.set_cons_succ]
      have _hI : True := trivial
      clear _hI
      refine takeH (i := 2) rfl (by kernel_rfl) (by kernel_rfl) (by kernel_rfl) (fun _ _ _ h => h) (v := .int .u8 (x13.toNat : Int)) (.inl ⟨rfl, fun W hW => (by have f := hW.cell C13.out; go_simp; try rfl)⟩) (Fr0.refl wq) ?_
      try simp only [Act.put, List.setIfInBounds_toArray, List.set_cons_zero, List.set_cons_succ]
      have _hI : True := trivial
      clear _hI
      refine takeH (i := 3) rfl (by kernel_rfl) (by kernel_rfl) (by kernel_rfl) (fun _ _ _ h => h) (.inl ⟨rfl, fun W hW => (by go_simp; try rfl)⟩) (Fr0.refl wq) ?_
      try simp only [Act.put, List.setIfInBounds_toArray, List.set_cons_zero, List.set_cons_succ]
      have _hI : True := trivial
      clear _hI
      refine takeH (i := 4) rfl (by kernel_rfl) (by kernel_rfl) (by kernel_rfl) (fun _ _ _ h => h) (.inl ⟨rfl, fun W hW => (by go_simp; try rfl)⟩) (Fr0.refl wq) ?_
      try simp only [Act.put, List.setIfInBounds_toArray, List.set_cons_zero, List.set_cons_succ]
      have _hI : True := trivial
      clear _hI
      refine takeH (i := 5) rfl (by kernel_rfl) (by kernel_rfl) (by kernel_rfl) (fun _ _ _ h => h) (v := .int .u8 (y13.toNat : Int)) (.inl ⟨rfl, fun W hW => (by have f := hW.cell S13.out; go_simp; try rfl)⟩) (Fr0.refl wq) ?_
      try simp only [Act.put, List.setIfInBounds_toArray, List.set_cons_zero, List.set_cons_succ]
      have _hI : True := trivial
      clear _hI
      refine takeH (i := 6) rfl (by kernel_rfl) (by kernel_rfl) (by kernel_rfl) (fun _ _ _ h => h) (.inl ⟨rfl, fun W hW => (by go_simp; try rfl)⟩) (Fr0.refl wq) ?_
      try simp only [Act.put, List.setIfInBounds_toArray, List.set_cons_zero, List.set_cons_succ]
      have _hI : True := trivial
      clear _hI
      refine takeH (i := 7) rfl (by kernel_rfl) (by kernel_rfl) (by kernel_rfl) (fun _ _ _ h => h) (v := .int .u8 (h0.toNat : Int)) (.inl ⟨rfl, fun W hW => (by go_simp; try rfl)⟩) (Fr0.refl wq) ?_
      try simp only [Act.put, List.setIfInBounds_toArray, List.set_cons_zero, List.set_cons_succ]
      have _hI : True := trivial
      clear _hI
      refine takeH (i := 8) rfl (by kernel_rfl) (by kernel_rfl) (by kernel_rfl) (fun _ _ _ h => h) (.inl ⟨rfl, fun W hW => (by go_simp; try rfl)⟩) (Fr0.refl wq) ?_
      try simp only [Act.put, List.setIfInBounds_toArray, List.set_cons_zero, List.set_cons_succ]
      have _hI : True := trivial
      clear _hI
      refine takeH (i := 9) rfl (by kernel_rfl) (by kernel_rfl) (by kernel_rfl) (fun _ _ _ h => h) (.inl ⟨rfl, fun W hW => (by go_simp; try rfl)⟩) (Fr0.refl wq) ?_
      try simp only [Act.put, List.setIfInBounds_toArray, List.set_cons_zero, List.set_cons_succ]
      have _hI : True := trivial
      clear _hI
      refine takeH (i := 10) rfl (by kernel_rfl) (by kernel_rfl) (by kernel_rfl) (fun _ _ _ h => h) (v := .int .u8 (x14.toNat : Int)) (.inl ⟨rfl, fun W hW => (by have f := hW.cell C14.out; go_simp; try rfl)⟩) (Fr0.refl wq) ?_
      try simp only [Act.put, List.setIfInBounds_toArray, List.set_cons_zero, List.set_cons_succ]
      have _hI : True := trivial
      clear _hI
      refine takeH (i := 11) rfl (by kernel_rfl) (by kernel_rfl) (by kernel_rfl) (fun _ _ _ h => h) (.inl ⟨rfl, fun W hW => (by go_simp; try rfl)⟩) (Fr0.refl wq) ?_
      try simp only [Act.put, List.setIfInBounds_toArray, List.set_cons_zero, List.set_cons_succ]
      have _hI : True := trivial
      clear _hI
      refine takeH (i := 12) rfl (by kernel_rfl) (by kernel_rfl) (by kernel_rfl) (fun _ _ _ h => h) (.inl ⟨rfl, fun W hW => (by go_simp; try rfl)⟩) (Fr0.refl wq) ?_
      try simp only [Act.put, List.setIfInBounds_toArray, List.set_cons_zero, List.set_cons_succ]
      have _hI : True := trivial
      clear _hI
      refine takeH (i := 13) rfl (by kernel_rfl) (by kernel_rfl) (by kernel_rfl) (fun _ _ _ h => h) (v := .int .u8 (y14.toNat : Int)) (.inl ⟨rfl, fun W hW => (by have f := hW.cell S14.out; go_simp; try rfl)⟩) (Fr0.refl wq) ?_
      try simp only [Act.put, List.setIfInBounds_toArray, List.set_cons_zero, List.set_cons_succ]
      have _hI : True := trivial
      clear _hI
      refine takeH (i := 14) rfl (by kernel_rfl) (by kernel_rfl) (by kernel_rfl) (fun _ _ _ h => h) (.inl ⟨rfl, fun W hW => (by go_simp; try rfl)⟩) (Fr0.refl wq) ?_
      try simp only [Act.put, List.setIfInBounds_toArray, List.set_cons_zero, List.set_cons_succ]
      have _hI : True := trivial
      clear _hI
      refine takeH (i := 15) rfl (by kernel_rfl) (by kernel_rfl) (by kernel_rfl) (fun _ _ _ h => h) (.inl ⟨rfl, fun W hW => (by go_simp; try rfl)⟩) (Fr0.refl wq) ?_
      try simp only [Act.put, List.setIfInBounds_toArray, List.set_cons_zero, List.set_cons_succ]
      have _hI : True := trivial
      clear _hI
      refine takeH (i := 16) rfl (by kernel_rfl) (by kernel_rfl) (by kernel_rfl) (fun _ _ _ h => h) (v := .int .u8 (x15.toNat : Int)) (.inl ⟨rfl, fun W hW => (by have f := hW.cell C15.out; go_simp; try rfl)⟩) (Fr0.refl wq) ?_
      try simp only [Act.put, List.setIfInBounds_toArray, List.set_cons_zero, List.set_cons_succ]
      have _hI : True := trivial
      clear _hI
      refine takeH (i := 17) rfl (by kernel_rfl) (by kernel_rfl) (by kernel_rfl) (fun _ _ _ h => h) (.inl ⟨rfl, fun W hW => (by go_simp; try rfl)⟩) (Fr0.refl wq) ?_
      try simp only [Act.put, List.setIfInBounds_toArray, List.set_cons_zero, List.set_cons_succ]
      have _hI : True := trivial
      clear _hI
      refine takeH (i := 18) rfl (by kernel_rfl) (by kernel_rfl) (by kernel_rfl) (fun _ _ _ h => h) (.inl ⟨rfl, fun W hW => (by go_simp; try rfl)⟩) (Fr0.refl wq) ?_
      try simp only [Act.put, List.setIfInBounds_toArray, List.set_cons_zero, List.set_cons_succ]
      have _hI : True := trivial
      clear _hI
      refine takeH (i := 19) rfl (by kernel_rfl) (by kernel_rfl) (by kernel_rfl) (fun _ _ _ h => h) (v := .int .u8 (y15.toNat : Int)) (.inl ⟨rfl, fun W hW => (by have f := hW.cell S15.out; go_simp; try rfl)⟩) (Fr0.refl wq) ?_
      try simp only [Act.put, List.setIfInBounds_toArray, List.set_cons_zero, List.set_cons_succ]
      have _hI : True := trivial
      clear _hI
      refine takeH (i := 20) rfl (by kernel_rfl) (by kernel_rfl) (by kernel_rfl) (fun _ _ _ h => h) (.inl ⟨rfl, fun W hW => (by go_simp; try rfl)⟩) (Fr0.refl wq) ?_
      try simp only [Act.put, List.setIfInBounds_toArray, List.set_cons_zero, List.set_cons_succ]
      have _hI : True := trivial
      clear _hI
      refine takeH (i := 21) rfl (by kernel_rfl) (by kernel_rfl) (by kernel_rfl) (fun _ _ _ h => h) (.inl ⟨rfl, fun W hW => (by go_simp; try rfl)⟩) (Fr0.refl wq) ?_
      try simp only [Act.put, List.setIfInBounds_toArray, List.set_cons_zero, List.set_cons_succ]
      have _hI : True := trivial
      clear _hI
      refine takeH (i := 22) rfl (by kernel_rfl) (by kernel_rfl) (by kernel_rfl) (fun _ _ _ h => h) (v := .int .u8 (x12.toNat : Int)) (.inl ⟨rfl, fun W hW => (by have f := hW.cell C12.out; go_simp; try rfl)⟩) (Fr0.refl wq) ?_
      try simp only [Act.put, List.setIfInBounds_toArray, List.set_cons_zero, List.set_cons_succ]
      have _hI : True := trivial
      clear _hI
      refine takeH (i := 23) rfl (by kernel_rfl) (by kernel_rfl) (by kernel_rfl) (fun _ _ _ h => h) (.inl ⟨rfl, fun W hW => (by go_simp; try rfl)⟩) (Fr0.refl wq) ?_
      try simp only [Act.put, List.setIfInBounds_toArray, List.set_cons_zero, List.set_cons_succ]
      have _hI : True := trivial
      clear _hI
      refine takeH (i := 24) rfl (by kernel_rfl) (by kernel_rfl) (by kernel_rfl) (fun _ _ _ h => h) (.inl ⟨rfl, fun W hW => (by go_simp; try rfl)⟩) (Fr0.refl wq) ?_
      try simp only [Act.put, List.setIfInBounds_toArray, List.set_cons_zero, List.set_cons_succ]
      have _hI : True := trivial
      clear _hI
      refine takeH (i := 25) rfl (by kernel_rfl) (by kernel_rfl) (by kernel_rfl) (fun _ _ _ h => h) (v := .int .u8 (y12.toNat : Int)) (.inl ⟨rfl, fun W hW => (by have f := hW.cell S12.out; go_simp; try rfl)⟩) (Fr0.refl wq) ?_
      try simp only [Act.put, List.setIfInBounds_toArray, List.set_cons_zero, List.set_cons_succ]
      have _hI : True := trivial
      clear _hI
      refine takeH (i := 26) rfl (by kernel_rfl) (by kernel_rfl) (by kernel_rfl) (fun _ _ _ h => h) (v := .agg (byts [h0, y14, y15, y12]).toArray) (.inl ⟨rfl, fun W hW => (by go_simp; try rfl)⟩) (Fr0.refl wq) ?_
      try simp only [Act.put, List.setIfInBounds_toArray, List.set_cons_zero, List.set_cons_succ]
      have _hI : True := trivial
      clear _hI
      refine wpAnyH_ready (rs := [27]) (by kernel_rfl) (by simp) (consG rfl rfl (fun K hK => ?_) AllReadyH.nil)
      have _hI : True := trivial
      clear _hI
      refine wp_alloc_blk 146 rfl z4 HRUN4.out ?_
      intro g9 w10 hB hF hl
      have R10 := Lib.hid hB
      have F10 := Lib.hid hF
      have L10 := Lib.hid hl
      clear hB hF hl
      refine hK.out _ _ F10.out ?_
      clear hK
      try simp only [Act.put, List.setIfInBounds_toArray, List.set_cons_zero, List.set_cons_succ]
      have _hI : True := trivial
      clear _hI
      refine wpAnyH_ready (rs := [28]) (by kernel_rfl) (by simp) (consG rfl rfl (fun K hK => ?_) AllReadyH.nil)
      have _hI : True := trivial
      clear _hI
      refine wp_store_blk 146 (.tmp 9) (.tmp 47) rfl g9 (byts [h0, y14, y15, y12]).toArray rfl rfl 146 z4 R10.out HI4.out HZ4'.out hr4 ?_
      intro w11 hB hF
      have R11 := Lib.hid hB
      have F11 := Lib.hid hF
      clear hB hF
      refine hK.out _ _ (Fr0.new F10.out F11.out L10.out) ?_
      clear hK
      try simp only [Act.put, List.setIfInBounds_toArray, List.set_cons_zero, List.set_cons_succ]
      refine wpAnyH_done (by kernel_rfl) ?_ _
      go_wp2_with fail
      have G11 := Lib.hid (Fr0.new F10.out F11.out L10.out)
      have KS := Lib.hid ((HS9.out).fr0 G11.out)
      have KT := Lib.hid (show Blk w11 g5 (byts (fillU T 176 ((j + 1) * 16 + 0))).toArray 141 by rw [Nat.add_zero, Nat.mul_comm]; exact (HT9.out).fr0 G11.out)
      have KZ := Lib.hid ((HZ9.out).fr0 G11.out)
      have KR := Lib.hid ((HR9.out).fr0 G11.out)
      have HF := Lib.hid (Fr0.trans HF9.out G11.out)
      have n85 := (HR9.out).ne HT9.out (by decide)
      have n95 := (R11.out).ne KT.out (by decide)
      have e9 : ((j : Int) + 1).toNat = j + 1 := by omega
      have j0 : (0 : Int) ≤ (j : Int) + 1 := by omega
      have HNN := Lib.hid (And.intro n85 n95)
      clear C12 C13 C14 C15 S12 S13 S14 S15 F10 F11 L10 R10 HS9 HT9 HZ9 HF9 HR9 G11 n85 n95 hx
      go_loopw [48] (fun v48 wx => ∃ k : Nat, k ≤ 16 ∧ v48 = .int .i64 (k : Int) ∧ Blk wx gs (byts sb).toArray 138 ∧ Blk wx g8 cr 22 ∧ Blk wx g9 (byts [h0, y14, y15, y12]).toArray 146 ∧ Blk wx g5 (byts (fillU T 176 ((j + 1) * 16 + k))).toArray 141 ∧ Blk wx g4 z 141 ∧ Fr0 w wx) (fun v48 _ => 16 - (intOf v48).toNat)
      case atStart => exact ⟨0, by omega, rfl, KS.out, KR.out, R11.out, KT.out, KZ.out, HF.out⟩
      case round =>
        obtain ⟨k, hk, rfl, hS, hR, hH, hT, hZ, hF⟩ := hrel
        clear KS KR R11 KT KZ HF
        have KS := Lib.hid hS
        have KR := Lib.hid hR
        have KH := Lib.hid hH
        have KZ := Lib.hid hZ
        have HF := Lib.hid hF
        by_cases hlk : k < 16
        · have k0 : (0 : Int) ≤ (k : Int) := by omega
          have k1 : (k : Int) < 16 := by omega
          have hp : (j + 1) * 16 + k < 176 := by omega
          have c5 := hT.u8 (i := (j + 1) * 16 + k) (by rw [fillU_len TL.out (by omega)]; exact hp)
          have f5 := hT.free ((j + 1) * 16 + k)
          have HN := Lib.hid (hT.fill TL.out hp)
          have hR' := hR
          rw [HCR.out] at hR'
          have c8 := hR'.u8 (i := k) (by rw [HRL.out]; exact hlk)
          have HRk := Lib.hid (RA.out k hlk)
          obtain ⟨t, htt⟩ : ∃ t, t = T.getD ((j + 1) * 16 + k) 0 := ⟨_, rfl⟩
          rw [← htt] at HN
          obtain ⟨x, hxx⟩ : ∃ t, t = rw.getD k 0 := ⟨_, rfl⟩
          rw [← hxx] at c8 HRk
          have FS := Lib.hid (((Fr1.refl g5 wr).set ((j + 1) * 16 + k) (.int .u8 (t.toNat : Int))).drew)
          by_cases h4 : k < 4
          · have c9 := hH.u8 (i := k) h4
            have h := TH.out (j + 1) k (by omega) (by omega) h4
            rw [Nat.add_sub_cancel, ← HRk.out, HDJ.out, show 16 * (j + 1) + k = (j + 1) * 16 + k by omega, ← htt] at h
            obtain ⟨y, hy⟩ : ∃ y, y = [h0, y14, y15, y12].getD k 0 := ⟨_, rfl⟩
            rw [← hy] at c9 h
            have hx := xorU x y
            rw [← h] at hx
            have k4 : (k : Int) < 4 := by omega
            clear hS hR hH hT hZ hF hR' htt hxx hy h hp
            go_wp2_with fail
            go_still_tail 11, (by kernel_rfl)
            go_wp2_with fail
            go_roundw
            case rel => exact ⟨k + 1, by omega, by go_num, (KS.out).fr1 FS.out ns5, (KR.out).fr1 FS.out (HNN.out).1, (KH.out).fr1 FS.out (HNN.out).2, (HN.out).drew, (KZ.out).fr1 FS.out n45, Fr0.new HF.out FS.out LG5.out⟩
            case measure => simp [intOf]; omega
          · have hp4 : (j + 1) * 16 + k - 4 < (j + 1) * 16 + k := by omega
            have c6 := hT.u8 (i := (j + 1) * 16 + (k - 4)) (by rw [fillU_len TL.out (by omega)]; omega)
            rw [fillU_low TL.out (by omega) (by omega)] at c6
            have h := TR.out (j + 1) k (by omega) (by omega) (by omega) hlk
            rw [Nat.add_sub_cancel, ← HRk.out, show 16 * (j + 1) + k = (j + 1) * 16 + k by omega, ← htt, show (j + 1) * 16 + k - 4 = (j + 1) * 16 + (k - 4) by omega] at h
            obtain ⟨y, hy⟩ : ∃ y, y = T.getD ((j + 1) * 16 + (k - 4)) 0 := ⟨_, rfl⟩
            rw [← hy] at c6 h
            have hx := xorU x y
            rw [← h] at hx
            have k4 : (4 : Int) ≤ (k : Int) := by omega
            have k5 : IntKind.i64.wrap ((k : Int) - 4) = (k : Int) - 4 := IntWalk.i64_in _ (by omega)
            have k6 : ((k : Int) - 4).toNat = k - 4 := by omega
            have k7 : (0 : Int) ≤ (k : Int) - 4 := by omega
            have k8 : (k : Int) - 4 < 16 := by omega
            clear hS hR hH hT hZ hF hR' htt hxx hy h hp hp4
            go_wp2_with fail
            go_still_tail 14, (by kernel_rfl)
            go_wp2_with fail
            clear k5 k6 k7 k8 c6 c5 f5 c8
            go_roundw
            case rel => exact ⟨k + 1, by omega, by go_num, (KS.out).fr1 FS.out ns5, (KR.out).fr1 FS.out (HNN.out).1, (KH.out).fr1 FS.out (HNN.out).2, (HN.out).drew, (KZ.out).fr1 FS.out n45, Fr0.new HF.out FS.out LG5.out⟩
            case measure => simp [intOf]; omega
        · obtain rfl : k = 16 := by omega
          have HTM := Lib.hid (fun W => show Calls Try.prog 84 #[.int .u8 (m.toNat : Int), .int .u8 2] W (fun e w' => e = .returned (.int .u8 ((pw (j + 1)).toNat : Int)) ∧ W = w') from by
            rw [HPW.out, ← HMJ.out]; exact times_any m 2 W)
          have HN := Lib.hid hT
          clear hS hR hH hT hZ hF
          go_wp2_with (go_at_call 84; refine (HTM.out _).mono ?_; rintro e w' ⟨rfl, rfl⟩)
          go_roundw
          case rel => exact ⟨j + 1, by omega, congrArg (Value.int .i64) (by push_cast; omega), rfl, KS.out, by rw [show 16 * (j + 1 + 1) = (j + 1) * 16 + 16 by omega]; exact HN.out, KZ.out, HF.out⟩
          case measure => simp [intOf]; omega
    · obtain rfl : j = 10 := by omega
      rw [show 16 * (10 + 1) = 176 from rfl, fillU_all TL.out] at hT
      have hi8 := HI.out
      have hz8 := HZ.out
      obtain ⟨cs, hcs⟩ : ∃ c, c = (byts T).toArray := ⟨_, rfl⟩
      rw [← hcs] at hT hi8 hz8 ha8
      have HCS := Lib.hid hcs
      have KT := Lib.hid hT
      have HI8 := Lib.hid hi8
      have HZ8 := Lib.hid hz8
      clear hS hT hZ hF hi8 hz8 hcs
      go_wp2_with (first
        | (refine list_load_blk rfl 141 _ rfl g5 rfl 141 cs KT.out _ Try.underlying141 rfl HI8.out ?_)
        | (refine list_store_blk rfl 141 _ _ rfl g4 cs rfl rfl 141 z KZ.out HI8.out HZ8.out ha8 ?_; intro w12 hB hF; have C5 := Lib.hid hB; have F12 := Lib.hid (Fr0.new HF.out hF LG4.out); clear hB hF))
      refine bodyPost_ret (v := .agg cs) (results_cell_row rfl _ _ g4 141 cs (0, 0) _ rfl C5.out Try.underlying141 rfl HI8.out) rfl ⟨by rw [HCS.out], F12.out⟩
end Go.Proofs.Ytgcjbbliaelkcaa
set_option linter.unusedSimpArgs false
set_option linter.unusedVariables false
namespace Go.Proofs.Ytgcjbbliaelkcaa
open Go.RowKit

set_option maxHeartbeats 4000000 in
set_option maxRecDepth 10000 in
theorem amove_any {b : List UInt8} {gs : Nat} {w : World} (hb : b.length = 16) (hs : Blk w gs (byts sbox).toArray 138) : Calls Try.prog 76 #[.agg (byts b).toArray, .int .i64 1, .pointer (some ⟨gs, 0, none⟩)] w fun e w' => e = .returned (.agg (byts (mvL b)).toArray) ∧ Fr0 w w' := by
  have TL := Lib.hid (show (mvL b).length = 16 from map16_len _)
  have TA := Lib.hid (fun i (h : i < 16) => show (mvL b).getD i 0 = sbox.getD (b.getD ((i + 4 * (i % 4)) % 16) 0).toNat 0 from map16_at _ h)
  have SL := Lib.hid sbox_len
  have HSX := Lib.hid hs
  have B0 := Lib.hid (Blk.new w (byts b).toArray 22)
  have HI := Lib.hid (a16_info (TL.out))
  have HZ := Lib.hid (z16_size (TL.out))
  have ha8 := byts_all (mvL b)
  have HBL := Lib.hid hb
  have HRUN := Lib.hid (fun W => z16_run W)
  obtain ⟨T, hT⟩ : ∃ T, T = mvL b := ⟨_, rfl⟩
  obtain ⟨sb, hsb⟩ : ∃ T, T = sbox := ⟨_, rfl⟩
  obtain ⟨z, hz⟩ : ∃ z, z = z16A := ⟨_, rfl⟩
  obtain ⟨cb, hcb⟩ : ∃ c, c = (byts b).toArray := ⟨_, rfl⟩
  rw [← hsb] at TA HSX SL
  rw [← hT] at TL TA ha8 HI HZ ⊢
  have HZZ := Lib.hid (hz.trans (show z16A = (byts (List.replicate 16 0)).toArray from rfl))
  rw [← hz] at HRUN HZ
  rw [← hcb] at B0 ⊢
  have HCB := Lib.hid hcb
  clear hT hz hcb hb hsb hs
  go_enter Try.func76, Try.ntmps76
  go_upto_region 3 with (first
    | (have _q := Z4; refine list_alloc_blk rfl 22 rfl z HRUN.out ?_; intro g7 w7 hB hF hl; have Z7 := Lib.hid hB; have F7 := Lib.hid hF; have L7 := Lib.hid hl; clear hB hF hl)
    | (refine list_alloc_blk rfl 22 rfl z HRUN.out ?_; intro g4 w4 hB hF hl; have Z4 := Lib.hid hB; have FF := Lib.hid hF; have L4 := Lib.hid hl; clear hB hF hl))
  have F4 := Lib.hid (show Fr0 w w7 from Fr0.trans (Fr0.trans ((Fr0.refl w).alloc _) FF.out) F7.out)
  have B7 := Lib.hid (((B0.out).fr0 FF.out).fr0 F7.out)
  have S7 := Lib.hid ((HSX.out).fr0 F4.out)
  have Z4 := Lib.hid ((Z4.out).fr0 F7.out)
  have hg := L4.out
  have hg7 := L7.out
  have hz4 := (Z4.out).lt
  have hs4 := (FF.out).size
  have hsl := (HSX.out).lt
  have hlt4 := (_q.out).lt
  simp only [World.size_alloc] at hg hs4
  obtain ⟨gb, hgb⟩ : ∃ g, g = w.heap.size := ⟨_, rfl⟩
  rw [← hgb] at B7
  rw [← hgb]
  have n1 : gs ≠ g7 := by omega
  have n2 : gb ≠ g7 := by omega
  have n3 : g4 ≠ g7 := by omega
  have LG := Lib.hid (show w.heap.size ≤ g4 by omega)
  have L7' := Lib.hid (show w.heap.size ≤ g7 by omega)
  clear hgb B0 FF L4 hg F7 L7 hg7 hz4 hs4 hsl hlt4 HSX _q
  go_loopw [9] (fun v9 wr => ∃ i : Nat, i ≤ 16 ∧ v9 = .int .i64 (i : Int) ∧ Blk wr gb cb 22 ∧ Blk wr gs (byts sb).toArray 138 ∧ Blk wr g7 (byts (fillU T 16 i)).toArray 22 ∧ Blk wr g4 z 22 ∧ Fr0 w wr) (fun v9 _ => 16 - (intOf v9).toNat)
  case atStart => exact ⟨0, by omega, rfl, B7.out, S7.out, by have h := Z7.out; rw [HZZ.out] at h; exact h, Z4.out, F4.out⟩
  case round =>
    obtain ⟨i, hi, rfl, hB, hS, hT, hZ, hF⟩ := hrel
    clear B7 S7 Z7 Z4 F4
    have KB := Lib.hid hB
    have KS := Lib.hid hS
    have KZ := Lib.hid hZ
    have HF := Lib.hid hF
    by_cases hlt : i < 16
    · obtain ⟨r, hr⟩ : ∃ r, r = i % 4 := ⟨_, rfl⟩
      obtain ⟨k, hk⟩ : ∃ k, k = (i + 4 * (i % 4)) % 16 := ⟨_, rfl⟩
      have hTi := TA.out i hlt
      rw [← hk] at hTi
      have hk16 : k < 16 := by omega
      have hB' := hB
      rw [HCB.out] at hB'
      have c0 := hB'.u8 (i := k) (by rw [HBL.out]; exact hk16)
      obtain ⟨x, hx⟩ : ∃ x, x = b.getD k 0 := ⟨_, rfl⟩
      rw [← hx] at c0 hTi
      have hxl := x.toNat_lt
      have c1 := hS.u8 (i := x.toNat) (by rw [SL.out]; exact hxl)
      rw [← hTi] at c1
      have c2 := hT.u8 (i := i) (by rw [fillU_len TL.out hi]; exact hlt)
      have f2 := hT.free i
      have HN := Lib.hid (hT.fill TL.out hlt)
      obtain ⟨t, htt⟩ : ∃ x, x = T.getD i 0 := ⟨_, rfl⟩
      rw [← htt] at c1 HN
      have q0 : IntKind.i64.wrap 4 = 4 := by decide
      have q1 : (i : Int).tmod 4 = (r : Int) := by rw [Int.tmod_eq_emod_of_nonneg (by omega)]; omega
      have q1' : (i : Int) % 4 = (r : Int) := by omega
      have hr4 : r < 4 := by omega
      have q2 : IntKind.i64.wrap (4 * (r : Int)) = 4 * (r : Int) := IntWalk.i64_in _ (by omega)
      have q3 : IntKind.i64.wrap ((i : Int) + 4 * (r : Int)) = (i : Int) + 4 * (r : Int) := IntWalk.i64_in _ (by omega)
      have q4 : ((i : Int) + 4 * (r : Int)).tmod 16 = (k : Int) := by rw [Int.tmod_eq_emod_of_nonneg (by omega)]; omega
      have q4' : ((i : Int) + 4 * (r : Int)) % 16 = (k : Int) := by omega
      have i0 : (0 : Int) ≤ (i : Int) := by omega
      have i1 : (i : Int) < 16 := by omega
      have i2 : (0 : Int) ≤ (k : Int) := by omega
      have i3 : (k : Int) < 16 := by omega
      have i4 : (0 : Int) ≤ (x.toNat : Int) := by omega
      have i5 : (x.toNat : Int) < 256 := by omega
      have FS := Lib.hid (((Fr1.refl g7 wr).set i (.int .u8 (t.toNat : Int))).drew)
      clear hr hk hx hTi htt hB hS hT hB' hZ hF hxl
      go_wp2_with fail
      go_still_tail 16, (by kernel_rfl)
      go_wp2_with fail
      clear q0 q1 q1' q2 q3 q4 q4' c0 c1 c2 f2
      go_roundw
      case rel => exact ⟨i + 1, by omega, by go_num, (KB.out).fr1 FS.out n2, (KS.out).fr1 FS.out n1, (HN.out).drew, (KZ.out).fr1 FS.out n3, Fr0.new HF.out FS.out L7'.out⟩
      case measure => simp [intOf]; omega
    · obtain rfl : i = 16 := by omega
      rw [fillU_all TL.out] at hT
      have hi8 := HI.out
      have hz8 := HZ.out
      obtain ⟨cs, hcs⟩ : ∃ c, c = (byts T).toArray := ⟨_, rfl⟩
      rw [← hcs] at hT hi8 hz8 ha8
      have HCS := Lib.hid hcs
      have KT := Lib.hid hT
      have HI8 := Lib.hid hi8
      have HZ8 := Lib.hid hz8
      clear hB hS hT hZ hF hi8 hz8 hcs
      go_wp2_with (first
        | (refine list_load_blk rfl 22 _ rfl g7 rfl 22 cs KT.out _ Try.underlying22 rfl HI8.out ?_)
        | (refine list_store_blk rfl 22 _ _ rfl g4 cs rfl rfl 22 z KZ.out HI8.out HZ8.out ha8 ?_; intro w5 hB hF; have C5 := Lib.hid hB; have F5 := Lib.hid (Fr0.new HF.out hF LG.out); clear hB hF))
      refine bodyPost_ret (v := .agg cs) (results_cell_row rfl _ _ g4 22 cs (0, 0) _ rfl C5.out Try.underlying22 rfl HI8.out) rfl ⟨by rw [HCS.out], F5.out⟩
end Go.Proofs.Ytgcjbbliaelkcaa
set_option linter.unusedSimpArgs false
set_option linter.unusedVariables false
namespace Go.Proofs.Ytgcjbbliaelkcaa
open Go.RowKit

section
variable {P : Program} {ops : Array Oper} {w : World} {Q : Act → Prop} {a : Act} {o : Oper} {rest : List Oper}
theorem st_val {v : Value} (hw : Region.wanted o (yielded ops a.tmps) = true) (hr : (execOp a.eval o).run P w = .ok (.value v) w) (h : wpStill P ops w Q rest (a.put o.dst v)) : wpStill P ops w Q (o :: rest) a :=
  wpStill_step fun K hK => by
    rw [if_pos hw]
    unfold Oper.still
    rw [hr]
    exact ⟨rfl, hK _ h⟩
theorem st_load (hw : Region.wanted o (yielded ops a.tmps) = true) (ty : TypeId) (x : Operand) (ho : o.op = .load ty x) (b off : Nat) (hx : a.eval x = .pointer (some ⟨b, off, none⟩)) (cs : List Value) (d : TypeDesc) (hc : w.rangeAt b off cs)
    (hu : P.underlying ty = some d) (hd : d.isRow = true) (hi : (P.info? ty).map (·.size) = some cs.length) (h : wpStill P ops w Q rest (a.put o.dst (.agg cs.toArray))) : wpStill P ops w Q (o :: rest) a :=
  st_val hw (by
    have hl := run_loadAt_mid (P := P) w b off ty cs d hc hu hd hi
    unfold execOp
    simp only [ho, hx, Sem.run_bind, hl, Result.andThen_ok]
    rfl) h
end
theorem Blk.whole {w : World} {g : Nat} {t : TypeId} {l : List UInt8} (h : Blk w g (byts l).toArray t) : w.rangeAt g 0 (byts l) := fun j v hv => h.cell (0 + j) (by rw [Nat.zero_add, List.getElem?_toArray]; exact hv)
theorem z256_run (W : World) : (Instr.alloc 138 true (.tuple #[])).run Try.prog W = .ok (.pointer (some ⟨W.heap.size, 0, none⟩)) (W.alloc (.cells (byts (List.replicate 256 0)).toArray 138)) := by kernel_rfl
theorem a256_info {d : List UInt8} (h : d.length = 256) : (Try.prog.info? 138).map (·.size) = some (byts d).toArray.size := by rw [byts_size, h]; kernel_rfl
theorem a176_info {d : List UInt8} (h : d.length = 176) : (Try.prog.info? 141).map (·.size) = some (byts d).toArray.size := by rw [byts_size, h]; kernel_rfl
set_option maxHeartbeats 8000000 in
set_option maxRecDepth 100000 in
theorem ahide_any {key b : List UInt8} {w : World} (hk : key.length = 16) (hb : b.length = 16) : Calls Try.prog 66 #[.agg (byts key).toArray, .agg (byts b).toArray] w fun e w' => e = .returned (.agg (byts (hidL key b)).toArray) ∧ Fr0 w w' := by
  have HV := Lib.hid (show hidL key b = hdS (ksL key) b 10 from rfl)
  have HKL := Lib.hid (ksL_len key)
  have HD0 := Lib.hid (show hdS (ksL key) b 0 = adL b (rkL (ksL key) 0) from rfl)
  have HDS := Lib.hid (fun i => show hdS (ksL key) b (i + 1) = adL (if i + 1 < 10 then mxL (mvL (hdS (ksL key) b i)) else mvL (hdS (ksL key) b i)) (rkL (ksL key) (i + 1)) from rfl)
  have HDL := Lib.hid (hdS_len (ksL key) b)
  have HSW := Lib.hid (fun W => swaps_any W)
  have HRN := Lib.hid (fun W g (h : Blk W g (byts sbox).toArray 138) => arounds_any hk h)
  have HAD := Lib.hid (fun (x y : List UInt8) (hx : x.length = 16) (hy : y.length = 16) W => aadd_any hx hy W)
  have HMV := Lib.hid (fun (x : List UInt8) (hx : x.length = 16) W g (h : Blk W g (byts sbox).toArray 138) => amove_any hx h)
  have HMX := Lib.hid (fun (x : List UInt8) (hx : x.length = 16) W => show Calls Try.prog 77 #[.agg (byts x).toArray, .agg #[.int .u8 2, .int .u8 3, .int .u8 1, .int .u8 1]] W (fun e w' => e = .returned (.agg (byts (mxL x)).toArray) ∧ Fr0 W w') from by
    have := amix_any (b := x) (c := [2, 3, 1, 1]) (w := W) hx rfl
    rwa [mxC_mxL] at this)
  have HMVL := Lib.hid (fun x => show (mvL x).length = 16 from map16_len _)
  have HMXL := Lib.hid (fun x => show (mxL x).length = 16 from map16_len _)
  have HADL := Lib.hid (fun x y => show (adL x y).length = 16 from map16_len _)
  have HIA := Lib.hid (fun (d : List UInt8) (h : d.length = 16) => a16_info h)
  have HAA := Lib.hid (fun (d : List UInt8) => byts_all d)
  have HZ16 := Lib.hid (fun (d : List UInt8) (h : d.length = 16) => z16_size h)
  have HSZ := Lib.hid (fun (d e : List UInt8) (h : d.length = 16) (h2 : e.length = 16) => show (byts d).toArray.size = (byts e).toArray.size by rw [byts_size, byts_size, h, h2])
  have HI256 := Lib.hid (a256_info sbox_len)
  have HI256b := Lib.hid (a256_info sback_len)
  have HZ256 := Lib.hid (show (byts (List.replicate 256 0)).toArray.size = (byts sbox).toArray.size by rw [byts_size, byts_size, sbox_len, List.length_replicate])
  have HZ256b := Lib.hid (show (byts (List.replicate 256 0)).toArray.size = (byts sback).toArray.size by rw [byts_size, byts_size, sback_len, List.length_replicate])
  have hs1 := byts_all sbox
  have hs2 := byts_all sback
  have HIR := Lib.hid (a176_info HKL.out)
  have HZR := Lib.hid (show z176A.size = (byts (ksL key)).toArray.size by rw [byts_size, HKL.out]; rfl)
  have hsr := byts_all (ksL key)
  have K0 := Lib.hid (Blk.new w (byts key).toArray 22)
  have B0 := Lib.hid (show Blk ((w.alloc (.cells (byts key).toArray 22)).alloc (.cells (byts b).toArray 22)) (w.heap.size + 1) (byts b).toArray 22 by have := Blk.new (w.alloc (.cells (byts key).toArray 22)) (byts b).toArray 22; simpa using this)
  have HRUN16 := Lib.hid (fun W => z16_run W)
  have HRUN256 := Lib.hid (fun W => z256_run W)
  have HRUNR := Lib.hid (fun W => z176_run W)
  have HKI := Lib.hid (a16_info hk)
  have HBI := Lib.hid (a16_info hb)
  have HBL := Lib.hid hb
  have HRO := Lib.hid (fun W g i (h : Blk W g (byts (ksL key)).toArray 141) (hi : i < 11) => show W.rangeAt g (i * 16) (byts (rkL (ksL key) i)) by
    have hr := h.range (16 * i) 16
    rw [Nat.mul_comm]; exact hr)
  have HRL := Lib.hid (fun i (hi : i < 11) => rkL_len (ks := ksL key) HKL.out hi)
  obtain ⟨ks, hks⟩ : ∃ k, k = ksL key := ⟨_, rfl⟩
  rw [← hks] at HV HKL HD0 HDS HDL HRN HIR HZR hsr HRO HRL
  obtain ⟨out, hout⟩ : ∃ k, k = hidL key b := ⟨_, rfl⟩
  rw [← hout] at HV ⊢
  obtain ⟨D, hD⟩ : ∃ k, k = hdS ks b := ⟨_, rfl⟩
  rw [← hD] at HV HD0 HDS HDL
  obtain ⟨sb, hsb⟩ : ∃ k, k = sbox := ⟨_, rfl⟩
  obtain ⟨sk, hsk⟩ : ∃ k, k = sback := ⟨_, rfl⟩
  rw [← hsb, ← hsk] at HSW
  rw [← hsb] at HRN HMV HI256 HZ256 hs1
  rw [← hsk] at HI256b HZ256b hs2
  obtain ⟨ck, hck⟩ : ∃ c, c = (byts key).toArray := ⟨_, rfl⟩
  rw [← hck] at HRN K0 B0 HKI ⊢
  obtain ⟨z16, hz16⟩ : ∃ z, z = z16A := ⟨_, rfl⟩
  obtain ⟨z256, hz256⟩ : ∃ z, z = (byts (List.replicate 256 0)).toArray := ⟨_, rfl⟩
  obtain ⟨zr, hzr⟩ : ∃ z, z = z176A := ⟨_, rfl⟩
  rw [← hz16] at HRUN16 HZ16
  rw [← hz256] at HRUN256 HZ256 HZ256b
  rw [← hzr] at HRUNR HZR
  clear hks hout hD hsb hsk hck hz16 hz256 hzr hk hb
  go_enter Try.func66, Try.ntmps66
  go_upto_region 3 with (first
    | (have _q := X7; refine list_store_blk rfl 141 _ _ rfl g7 (byts ks).toArray rfl rfl 141 zr X7.out HIR.out HZR.out hsr ?_; intro w9 hB hF; have R9 := Lib.hid hB; have F9 := Lib.hid hF; clear hB hF)
    | (have _q := R6; refine list_alloc_blk rfl 141 rfl zr HRUNR.out ?_; intro g7 w8 hB hF hl; have X7 := Lib.hid hB; have F8 := Lib.hid hF; have L7 := Lib.hid hl; clear hB hF hl)
    | (go_at_call 74; refine (HRN.out _ _ (S5.out)).mono ?_; rintro e w7 ⟨rfl, hf⟩; have F7 := Lib.hid hf; have R6 := Lib.hid hf.size; clear hf)
    | (have _q := S5; refine list_load_blk rfl 22 _ rfl w.heap.size rfl 22 ck K5.out _ Try.underlying22 rfl HKI.out ?_)
    | (have _q := S4; refine list_store_blk rfl 138 _ _ rfl g6 (byts sk).toArray rfl rfl 138 z256 X6.out HI256b.out HZ256b.out hs2 ?_; intro w6 hB hF; have F6 := Lib.hid hF; have S5 := Lib.hid ((S4.out).fr1 hF (by have := (Y5.out).lt; have := L6.out; omega)); have K5 := Lib.hid ((K4.out).fr1 hF NK6.out); clear hB hF)
    | (have _q := X6; refine list_store_blk rfl 138 _ _ rfl g5 (byts sb).toArray rfl rfl 138 z256 X5.out HI256.out HZ256.out hs1 ?_; intro w5 hB hF; have S4 := Lib.hid hB; have F5 := Lib.hid hF; have X6 := Lib.hid ((X6.out).fr1 hF (by have := (Y5.out).lt; have := L6.out; omega)); have K4 := Lib.hid ((K3.out).fr1 hF NK5.out); clear hB hF)
    | (have _q := Y5; refine list_alloc_blk rfl 138 rfl z256 HRUN256.out ?_; intro g6 w4 hB hF hl; have X6 := Lib.hid hB; have F4 := Lib.hid hF; have L6 := Lib.hid hl; have X5 := Lib.hid ((Y5.out).fr0 hF); have K3 := Lib.hid ((K2.out).fr0 hF); have NK6 := Lib.hid (show w.heap.size ≠ g6 by have := (K2.out).lt; omega); clear hB hF hl)
    | (have _q := F2; refine list_alloc_blk rfl 138 rfl z256 HRUN256.out ?_; intro g5 w3 hB hF hl; have Y5 := Lib.hid hB; have F3 := Lib.hid hF; have L5 := Lib.hid hl; have K2 := Lib.hid ((K1.out).fr0 hF); have NK5 := Lib.hid (show w.heap.size ≠ g5 by have := (K1.out).lt; omega); clear hB hF hl)
    | (go_at_call 73; refine (HSW.out _).mono ?_; rintro e w2 ⟨rfl, hf⟩; have F2 := Lib.hid hf; have K1 := Lib.hid ((KA.out).fr0 hf); clear hf)
    | (refine list_alloc_blk rfl 22 rfl z16 HRUN16.out ?_; intro g4 w1 hB hF hl; have Z4 := Lib.hid hB; have F1 := Lib.hid hF; have L4 := Lib.hid hl; have KA := Lib.hid (((K0.out).alloc _).fr0 hF); have B1 := Lib.hid ((B0.out).fr0 hF); clear hB hF hl))
  have q1 := L4.out
  have q2 := (F1.out).size
  have q3 := (Z4.out).lt
  have q4 := (F2.out).size
  have q5 := L5.out
  have q6 := (F3.out).size
  have q7 := (Y5.out).lt
  have q8 := L6.out
  have q9 := (F4.out).size
  have q10 := (F5.out).size
  have q11 := (F6.out).size
  have q12 := (F7.out).size
  have q13 := L7.out
  have q14 := (X5.out).lt
  simp only [World.size_alloc] at q1 q2
  obtain ⟨gb, hgb⟩ : ∃ g, g = w.heap.size + 1 := ⟨_, rfl⟩
  rw [← hgb] at B1
  rw [← hgb]
  have nb5 : gb ≠ g5 := by omega
  have nb6 : gb ≠ g6 := by omega
  have nb7 : gb ≠ g7 := by omega
  have n57 : g5 ≠ g7 := by omega
  have n45 : g4 ≠ g5 := by omega
  have n46 : g4 ≠ g6 := by omega
  have n47 : g4 ≠ g7 := by omega
  have n4b : g4 ≠ gb := by omega
  have n5b : g5 ≠ gb := by omega
  have n7b : g7 ≠ gb := by omega
  have LB := Lib.hid (show w.heap.size ≤ gb by omega)
  have LG4 := Lib.hid (show w.heap.size ≤ g4 by omega)
  have B9 := Lib.hid (((((((((B1.out).fr0 F2.out).fr0 F3.out).fr0 F4.out).fr1 F5.out nb5).fr1 F6.out nb6).fr0 F7.out).fr0 F8.out).fr1 F9.out nb7)
  have Z9 := Lib.hid (((((((((Z4.out).fr0 F2.out).fr0 F3.out).fr0 F4.out).fr1 F5.out n45).fr1 F6.out n46).fr0 F7.out).fr0 F8.out).fr1 F9.out n47)
  have S9 := Lib.hid ((((S5.out).fr0 F7.out).fr0 F8.out).fr1 F9.out n57)
  have HF9 := Lib.hid (show Fr0 w w9 from Fr0.new (Fr0.trans (Fr0.trans (Fr0.new (Fr0.new (Fr0.trans (Fr0.trans (Fr0.trans (Fr0.trans (((Fr0.refl w).alloc _).alloc _) F1.out) F2.out) F3.out) F4.out) F5.out (by omega)) F6.out (by omega)) F7.out) F8.out) F9.out (by omega))
  clear q1 q2 q3 q4 q5 q6 q7 q8 q9 q10 q11 q12 q13 q14 hgb nb5 nb6 nb7 n57 n45 n46 n47 L4 F1 Z4 F2 L5 F3 Y5 L6 F4 F5 F6 F7 L7 X5 F8 F9 B1 S5 K0 B0 KA K1 K2 K3 K4 K5 NK5 NK6 X6 S4 R6 X7 HSW HRN HRUN16 HRUN256 HRUNR HI256 HI256b HZ256 HZ256b hs1 hs2 HIR HZR hsr HKI
  have HAB := Lib.hid ((HAD.out) b (rkL ks 0) HBL.out (HRL.out 0 (by omega)))
  have HR0 := Lib.hid (HRO.out w9 g7 0 R9.out (by omega))
  have HIM := Lib.hid (fun i (hi : i < 11) => show (Try.prog.info? 22).map (·.size) = some (byts (rkL ks i)).length by rw [byts_len, HRL.out i hi]; kernel_rfl)
  have HI0 := Lib.hid (HIM.out 0 (by omega))
  rw [← HD0.out] at HAB
  have D0L := HDL.out 0
  have hsd := byts_all (D 0)
  have HID0 := Lib.hid (HIA.out (D 0) D0L)
  have HZD0 := Lib.hid (HSZ.out b (D 0) HBL.out D0L)
  obtain ⟨r0, hr0⟩ : ∃ r, r = rkL ks 0 := ⟨_, rfl⟩
  rw [← hr0] at HAB HR0 HI0
  clear hr0 D0L
  go_upto_region 5 with (first
    | (refine list_load_blk rfl 22 _ rfl gb rfl 22 (byts b).toArray B9.out _ Try.underlying22 rfl HBI.out ?_)
    | (refine wpList_load_mid rfl 22 _ rfl g7 0 rfl (byts r0) _ HR0.out Try.underlying22 rfl HI0.out ?_)
    | (go_at_call 75; refine (HAB.out _).mono ?_; rintro e w10 ⟨rfl, hf⟩; have F10 := Lib.hid hf; have BB := Lib.hid ((B9.out).fr0 hf); clear hf)
    | (have _q := F10; refine list_store_blk rfl 22 _ _ rfl gb (byts (D 0)).toArray rfl rfl 22 (byts b).toArray BB.out HID0.out HZD0.out hsd ?_; intro w11 hB hF; have C11 := Lib.hid hB; have F11 := Lib.hid hF; clear hB hF))
  have C := Lib.hid (C11.out)
  have S := Lib.hid (((S9.out).fr0 F10.out).fr1 F11.out n5b)
  have R := Lib.hid (((R9.out).fr0 F10.out).fr1 F11.out n7b)
  have Z := Lib.hid (((Z9.out).fr0 F10.out).fr1 F11.out n4b)
  have F := Lib.hid (Fr0.new (Fr0.trans HF9.out F10.out) F11.out LB.out)
  clear C11 S9 R9 Z9 HF9 F10 F11 BB B9 HAB HR0 HI0 HID0 HZD0 hsd
  go_loopw [8] (fun v8 wr => ∃ j : Nat, j ≤ 10 ∧ v8 = .int .i64 ((j : Int) + 1) ∧ Blk wr gb (byts (D j)).toArray 22 ∧ Blk wr g5 (byts sb).toArray 138 ∧ Blk wr g7 (byts ks).toArray 141 ∧ Blk wr g4 z16 22 ∧ Fr0 w wr) (fun v8 _ => 11 - (intOf v8).toNat)
  case atStart => exact ⟨0, by omega, rfl, C.out, S.out, R.out, Z.out, F.out⟩
  case round =>
    obtain ⟨j, hj, rfl, hC, hS, hR, hZ, hF⟩ := hrel
    clear C S R Z F
    have C := Lib.hid hC
    have S := Lib.hid hS
    have R := Lib.hid hR
    have Z := Lib.hid hZ
    have F := Lib.hid hF
    by_cases hlt : j < 10
    · have j1 : (j : Int) + 1 < 11 := by omega
      have j0 : (0 : Int) ≤ (j : Int) + 1 := by omega
      have e9 : ((j : Int) + 1).toNat = j + 1 := by omega
      have DL := HDL.out j
      have MVL := HMVL.out (D j)
      have HMVJ := Lib.hid (fun W h => (HMV.out) (D j) DL W g5 h)
      have HID := Lib.hid (HIA.out (D j) DL)
      have HIV := Lib.hid (HIA.out (mvL (D j)) MVL)
      have HZV := Lib.hid (HSZ.out (D j) (mvL (D j)) DL MVL)
      have hsv := byts_all (mvL (D j))
      have HDJ := Lib.hid (HDS.out j)
      have HRR := Lib.hid (fun W h => HRO.out W g7 (j + 1) h (by omega))
      have HIR := Lib.hid (HIM.out (j + 1) (by omega))
      have HRLJ := Lib.hid (HRL.out (j + 1) (by omega))
      have HIE := Lib.hid (HIA.out (D (j + 1)) (HDL.out (j + 1)))
      have hse := byts_all (D (j + 1))
      by_cases h10 : j + 1 < 10
      · rw [if_pos h10] at HDJ
        have MXL := HMXL.out (mvL (D j))
        have HMXJ := Lib.hid (fun W => (HMX.out) (mvL (D j)) MVL W)
        have HIX := Lib.hid (HIA.out (mxL (mvL (D j))) MXL)
        have HZX := Lib.hid (HSZ.out (mvL (D j)) (mxL (mvL (D j))) MVL MXL)
        have hsx := byts_all (mxL (mvL (D j)))
        have HADJ := Lib.hid (fun W => (HAD.out) (mxL (mvL (D j))) (rkL ks (j + 1)) MXL HRLJ.out W)
        rw [← HDJ.out] at HADJ
        have HZE := Lib.hid (HSZ.out (mxL (mvL (D j))) (D (j + 1)) MXL (HDL.out (j + 1)))
        have j2 : (j : Int) + 1 < 10 := by omega
        obtain ⟨d0, hd0⟩ : ∃ d, d = D j := ⟨_, rfl⟩
        rw [← hd0] at HMVJ HID HIV HZV hsv HMXJ HIX HZX hsx HADJ HZE C
        obtain ⟨d1, hd1⟩ : ∃ d, d = mvL d0 := ⟨_, rfl⟩
        rw [← hd1] at HMVJ HIV HZV hsv HMXJ HIX HZX hsx HADJ HZE
        obtain ⟨d2, hd2⟩ : ∃ d, d = mxL d1 := ⟨_, rfl⟩
        rw [← hd2] at HMXJ HIX HZX hsx HADJ HZE
        obtain ⟨d3, hd3⟩ : ∃ d, d = D (j + 1) := ⟨_, rfl⟩
        rw [← hd3] at HADJ HIE hse HZE
        obtain ⟨rj, hrj⟩ : ∃ d, d = rkL ks (j + 1) := ⟨_, rfl⟩
        rw [← hrj] at HRR HIR HADJ
        have HD3 := Lib.hid hd3
        clear hC hS hR hZ hF DL MVL MXL hd0 hd1 hd2 hd3 hrj HDJ h10
        go_upto_region 10 with (first
          | (have _q := C5; refine list_store_blk rfl 22 _ _ rfl gb (byts d2).toArray rfl rfl 22 (byts d1).toArray C5.out HIX.out HZX.out hsx ?_; intro w6 hB hF; have C6 := Lib.hid hB; have F6 := Lib.hid hF; clear hB hF)
          | (go_at_call 77; refine (HMXJ.out _).mono ?_; rintro e w5 ⟨rfl, hf⟩; have F5 := Lib.hid hf; have C5 := Lib.hid ((C4.out).fr0 hf); clear hf)
          | (have _q := C4; refine list_load_blk rfl 22 _ rfl gb rfl 22 (byts d1).toArray C4.out _ Try.underlying22 rfl HIV.out ?_)
          | (have _q := C3; refine list_store_blk rfl 22 _ _ rfl gb (byts d1).toArray rfl rfl 22 (byts d0).toArray C3.out HIV.out HZV.out hsv ?_; intro w4 hB hF; have C4 := Lib.hid hB; have F4 := Lib.hid hF; clear hB hF)
          | (go_at_call 76; refine (HMVJ.out _ S.out).mono ?_; rintro e w3 ⟨rfl, hf⟩; have F3 := Lib.hid hf; have C3 := Lib.hid ((C.out).fr0 hf); clear hf)
          | (refine list_load_blk rfl 22 _ rfl gb rfl 22 (byts d0).toArray C.out _ Try.underlying22 rfl HID.out ?_))
        have GS := Lib.hid (((((S.out).fr0 F3.out).fr1 F4.out n5b).fr0 F5.out).fr1 F6.out n5b)
        have GR := Lib.hid (((((R.out).fr0 F3.out).fr1 F4.out n7b).fr0 F5.out).fr1 F6.out n7b)
        have GZ := Lib.hid (((((Z.out).fr0 F3.out).fr1 F4.out n4b).fr0 F5.out).fr1 F6.out n4b)
        have GF := Lib.hid (Fr0.new (Fr0.trans (Fr0.new (Fr0.trans F.out F3.out) F4.out LB.out) F5.out) F6.out LB.out)
        clear S R Z F F3 F4 F5 F6 C3 C4 C5 HMVJ HID HIV HZV hsv HMXJ HZX hsx
        have QS := Lib.hid ((GS.out).drew)
        have QR := Lib.hid ((GR.out).drew)
        have QZ := Lib.hid ((GZ.out).drew)
        have QF := Lib.hid ((GF.out).drew)
        have QC := Lib.hid ((C6.out).drew)
        clear GS GR GZ GF C6
        refine wp_region_still_tail 4 (by kernel_rfl) (by kernel_rfl) ?_
        simp only [List.take_succ_cons, List.take_zero, List.drop_succ_cons, List.drop_zero]
        refine st_load rfl 22 _ rfl gb 0 rfl (byts d2) _ (Blk.whole QC.out) Try.underlying22 rfl (by rw [byts_len]; have h := HIX.out; rw [byts_size] at h; rw [Nat.mul_one]; exact h) ?_
        still_step
        still_step
        refine st_load rfl 22 _ rfl g7 ((j + 1) * 16) rfl (byts rj) _ (HRR.out _ QR.out) Try.underlying22 rfl HIR.out ?_
        try refine wpStill_nil ?_
        go_wp2_with (first
          | (have _q := F7; refine list_store_blk rfl 22 _ _ rfl gb (byts d3).toArray rfl rfl 22 (byts d2).toArray ((QC.out).fr0 F7.out) HIE.out HZE.out hse ?_; intro w8 hB hF; have C8 := Lib.hid hB; have F8 := Lib.hid hF; clear hB hF)
          | (go_at_call 75; refine (HADJ.out _).mono ?_; rintro e w7 ⟨rfl, hf⟩; have F7 := Lib.hid hf; clear hf))
        go_roundw
        case rel => exact ⟨j + 1, by omega, congrArg (Value.int .i64) (by push_cast; omega), by rw [← HD3.out]; exact C8.out, ((QS.out).fr0 F7.out).fr1 F8.out n5b, ((QR.out).fr0 F7.out).fr1 F8.out n7b, ((QZ.out).fr0 F7.out).fr1 F8.out n4b, Fr0.new (Fr0.trans QF.out F7.out) F8.out LB.out⟩
        case measure => simp [intOf]; omega
      · rw [if_neg h10] at HDJ
        have HADJ := Lib.hid (fun W => (HAD.out) (mvL (D j)) (rkL ks (j + 1)) MVL HRLJ.out W)
        rw [← HDJ.out] at HADJ
        have HZE := Lib.hid (HSZ.out (mvL (D j)) (D (j + 1)) MVL (HDL.out (j + 1)))
        have j2 : (10 : Int) ≤ (j : Int) + 1 := by omega
        obtain ⟨d0, hd0⟩ : ∃ d, d = D j := ⟨_, rfl⟩
        rw [← hd0] at HMVJ HID HIV HZV hsv HADJ HZE C
        obtain ⟨d1, hd1⟩ : ∃ d, d = mvL d0 := ⟨_, rfl⟩
        rw [← hd1] at HMVJ HIV HZV hsv HADJ HZE
        obtain ⟨d3, hd3⟩ : ∃ d, d = D (j + 1) := ⟨_, rfl⟩
        rw [← hd3] at HADJ HIE hse HZE
        obtain ⟨rj, hrj⟩ : ∃ d, d = rkL ks (j + 1) := ⟨_, rfl⟩
        rw [← hrj] at HRR HIR HADJ
        have HD3 := Lib.hid hd3
        clear hC hS hR hZ hF DL MVL hd0 hd1 hd3 hrj HDJ h10
        go_upto_region 10 with (first
          | (have _q := C3; refine list_store_blk rfl 22 _ _ rfl gb (byts d1).toArray rfl rfl 22 (byts d0).toArray C3.out HIV.out HZV.out hsv ?_; intro w4 hB hF; have C4 := Lib.hid hB; have F4 := Lib.hid hF; clear hB hF)
          | (go_at_call 76; refine (HMVJ.out _ S.out).mono ?_; rintro e w3 ⟨rfl, hf⟩; have F3 := Lib.hid hf; have C3 := Lib.hid ((C.out).fr0 hf); clear hf)
          | (refine list_load_blk rfl 22 _ rfl gb rfl 22 (byts d0).toArray C.out _ Try.underlying22 rfl HID.out ?_))
        have GS := Lib.hid (((S.out).fr0 F3.out).fr1 F4.out n5b)
        have GR := Lib.hid (((R.out).fr0 F3.out).fr1 F4.out n7b)
        have GZ := Lib.hid (((Z.out).fr0 F3.out).fr1 F4.out n4b)
        have GF := Lib.hid (Fr0.new (Fr0.trans F.out F3.out) F4.out LB.out)
        clear S R Z F F3 F4 C3 HMVJ HID HZV hsv
        have QS := Lib.hid ((GS.out).drew)
        have QR := Lib.hid ((GR.out).drew)
        have QZ := Lib.hid ((GZ.out).drew)
        have QF := Lib.hid ((GF.out).drew)
        have QC := Lib.hid ((C4.out).drew)
        clear GS GR GZ GF C4
        refine wp_region_still_tail 4 (by kernel_rfl) (by kernel_rfl) ?_
        simp only [List.take_succ_cons, List.take_zero, List.drop_succ_cons, List.drop_zero]
        refine st_load rfl 22 _ rfl gb 0 rfl (byts d1) _ (Blk.whole QC.out) Try.underlying22 rfl (by rw [byts_len]; have h := HIV.out; rw [byts_size] at h; rw [Nat.mul_one]; exact h) ?_
        still_step
        still_step
        refine st_load rfl 22 _ rfl g7 ((j + 1) * 16) rfl (byts rj) _ (HRR.out _ QR.out) Try.underlying22 rfl HIR.out ?_
        try refine wpStill_nil ?_
        go_wp2_with (first
          | (have _q := F7; refine list_store_blk rfl 22 _ _ rfl gb (byts d3).toArray rfl rfl 22 (byts d1).toArray ((QC.out).fr0 F7.out) HIE.out HZE.out hse ?_; intro w8 hB hF; have C8 := Lib.hid hB; have F8 := Lib.hid hF; clear hB hF)
          | (go_at_call 75; refine (HADJ.out _).mono ?_; rintro e w7 ⟨rfl, hf⟩; have F7 := Lib.hid hf; clear hf))
        go_roundw
        case rel => exact ⟨j + 1, by omega, congrArg (Value.int .i64) (by push_cast; omega), by rw [← HD3.out]; exact C8.out, ((QS.out).fr0 F7.out).fr1 F8.out n5b, ((QR.out).fr0 F7.out).fr1 F8.out n7b, ((QZ.out).fr0 F7.out).fr1 F8.out n4b, Fr0.new (Fr0.trans QF.out F7.out) F8.out LB.out⟩
        case measure => simp [intOf]; omega
    · obtain rfl : j = 10 := by omega
      have DL := HDL.out 10
      have HI8 := Lib.hid (HIA.out (D 10) DL)
      have HZ8 := Lib.hid (HZ16.out (D 10) DL)
      have ha8 := byts_all (D 10)
      rw [← HV.out] at HI8 HZ8 ha8 C
      clear hC hS hR hZ hF DL
      go_wp2_with (first
        | (refine list_load_blk rfl 22 _ rfl gb rfl 22 (byts out).toArray C.out _ Try.underlying22 rfl HI8.out ?_)
        | (refine list_store_blk rfl 22 _ _ rfl g4 (byts out).toArray rfl rfl 22 z16 Z.out HI8.out HZ8.out ha8 ?_; intro w12 hB hF; have C5 := Lib.hid hB; have F12 := Lib.hid (Fr0.new F.out hF LG4.out); clear hB hF))
      refine bodyPost_ret (v := .agg (byts out).toArray) (results_cell_row rfl _ _ g4 22 (byts out).toArray (0, 0) _ rfl C5.out Try.underlying22 rfl HI8.out) rfl ⟨rfl, F12.out⟩
end Go.Proofs.Ytgcjbbliaelkcaa
set_option linter.unusedSimpArgs false
set_option linter.unusedVariables false
namespace Go.Proofs.Ytgcjbbliaelkcaa
open Go.RowKit

theorem ksR_key (key : List UInt8) {i k : Nat} (hi : i < 4) (hk : k < 4) : (ksL key).getD (i * 4 + k) 0 = key.getD (4 * i + k) 0 := by
  rw [ksL_at key (by omega), kB, if_pos (by omega), Nat.mul_comm]
theorem ksR_col (key : List UInt8) {i k : Nat} (h4 : 4 ≤ i) (hi : i < 44) (hm : i % 4 = 0) (hk : k < 4) :
    (ksL key).getD (i * 4 + k) 0 = (ksL key).getD ((i - 4) * 4 + k) 0 ^^^ swp ((ksL key).getD ((i - 1) * 4 + (k + 1) % 4) 0) ^^^ (if k = 0 then pwU ((i - 1) / 4) else 0) := by
  rw [ksL_at key (by omega), kB, if_neg (by omega), if_pos (by omega), ksL_low key (by omega) (by omega), ksL_low key (by omega) (by omega), show i * 4 + k - 16 = (i - 4) * 4 + k by omega,
    show (i * 4 + k) / 16 * 16 - 4 + (i * 4 + k + 1) % 4 = (i - 1) * 4 + (k + 1) % 4 by omega, show (i * 4 + k) / 16 - 1 = (i - 1) / 4 by omega, UInt8.xor_assoc]
  by_cases h0 : k = 0
  · rw [if_pos h0, if_pos (by omega)]
  · rw [if_neg h0, if_neg (by omega)]
theorem ksR_rest (key : List UInt8) {i k : Nat} (h4 : 4 ≤ i) (hi : i < 44) (hm : ¬ i % 4 = 0) (hk : k < 4) : (ksL key).getD (i * 4 + k) 0 = (ksL key).getD ((i - 4) * 4 + k) 0 ^^^ (ksL key).getD ((i - 1) * 4 + k) 0 := by
  rw [ksL_at key (by omega), kB, if_neg (by omega), if_neg (by omega), ksL_low key (by omega) (by omega), ksL_low key (by omega) (by omega), show i * 4 + k - 16 = (i - 4) * 4 + k by omega, show i * 4 + k - 4 = (i - 1) * 4 + k by omega]
theorem set_low (T : List UInt8) (p : Nat) (x : UInt8) {j : Nat} (h : j ≠ p) : (T.set p x).getD j 0 = T.getD j 0 := by
  rw [List.getD, List.getD, List.getElem?_set_ne (Ne.symm h)]
theorem set_hit (T : List UInt8) (p : Nat) (x : UInt8) (h : p < T.length) : (T.set p x).getD p 0 = x := by simp [List.getD, h]
theorem fillU_same {T T' : List UInt8} {n p : Nat} (h : T.take p = T'.take p) : fillU T n p = fillU T' n p := by unfold fillU; rw [h]
theorem take_set_le (T : List UInt8) {p q : Nat} (x : UInt8) (h : p ≤ q) : (T.set q x).take p = T.take p := List.take_set_of_le h
theorem fillU_back {T : List UInt8} {n p q : Nat} (x : UInt8) (hT : T.length = n) (hp : q < p) (hpn : p ≤ n) : (fillU (T.set q x) n p).set q (T.getD q 0) = fillU T n p := by
  unfold fillU
  rw [List.set_append_left _ _ (by rw [List.length_take, List.length_set]; omega)]
  congr 1
  rw [List.take_set, List.set_set]
  apply List.ext_getElem (by simp)
  intro i h1 h2
  simp only [List.getElem_set, List.getElem_take]
  split
  · rename_i h; subst h; simp [List.getD, hT, show q < n by omega]
  · rfl
end Go.Proofs.Ytgcjbbliaelkcaa
set_option linter.unusedSimpArgs false
set_option linter.unusedVariables false
namespace Go.Proofs.Ytgcjbbliaelkcaa
open Go.RowKit

theorem mvL_at (b : List UInt8) {i : Nat} (h : i < 16) : (mvL b).getD i 0 = swp (b.getD (4 * ((i / 4 + i % 4) % 4) + i % 4) 0) := by
  unfold mvL
  rw [map16_at _ h, show (i + 4 * (i % 4)) % 16 = 4 * ((i / 4 + i % 4) % 4) + i % 4 by omega]
theorem mxL_at (b : List UInt8) {c r : Nat} (hc : c < 4) (hr : r < 4) : (mxL b).getD (4 * c + r) 0 = tms 2 (b.getD (4 * c + r) 0) ^^^ tms 3 (b.getD (4 * c + (r + 1) % 4) 0) ^^^ b.getD (4 * c + (r + 2) % 4) 0 ^^^ b.getD (4 * c + (r + 3) % 4) 0 := by
  unfold mxL
  rw [map16_at _ (by omega), mxB, show (4 * c + r) / 4 * 4 + (4 * c + r) % 4 = 4 * c + r by omega, show (4 * c + r) / 4 * 4 + (4 * c + r + 1) % 4 = 4 * c + (r + 1) % 4 by omega, show (4 * c + r) / 4 * 4 + (4 * c + r + 2) % 4 = 4 * c + (r + 2) % 4 by omega,
    show (4 * c + r) / 4 * 4 + (4 * c + r + 3) % 4 = 4 * c + (r + 3) % 4 by omega]
theorem adL_at (b r : List UInt8) {i : Nat} (h : i < 16) : (adL b r).getD i 0 = b.getD i 0 ^^^ r.getD i 0 := map16_at _ h
theorem ridx (c r k : Nat) (K : Int) (hK : K = (k : Int)) (hc : c < 4) (hr : r < 4) (hk : k ≤ 3) : ∃ m p : Nat, m = (r + k) % 4 ∧ p = 4 * c + m ∧ p < 16 ∧ IntKind.i64.wrap ((r : Int) + K) = (r : Int) + K ∧ ((r : Int) + K).tmod 4 = (m : Int) ∧ IntKind.i64.wrap (4 * (c : Int) + (m : Int)) = (p : Int) ∧ (p : Int) < 16 ∧ (0 : Int) ≤ (p : Int) :=
  ⟨(r + k) % 4, 4 * c + (r + k) % 4, rfl, rfl, by omega, IntWalk.i64_in _ (by omega), by rw [Int.tmod_eq_emod_of_nonneg (by omega)]; omega, by rw [IntWalk.i64_in _ (by omega)]; omega, by omega, by omega⟩
theorem ridx0 (c r : Nat) (hc : c < 4) (hr : r < 4) : ∃ p : Nat, p = 4 * c + r ∧ p < 16 ∧ IntKind.i64.wrap (4 * (c : Int)) = 4 * (c : Int) ∧ IntKind.i64.wrap (4 * (c : Int) + (r : Int)) = (p : Int) ∧ (p : Int) < 16 ∧ (0 : Int) ≤ (p : Int) :=
  ⟨4 * c + r, rfl, by omega, IntWalk.i64_in _ (by omega), by rw [IntWalk.i64_in _ (by omega)]; omega, by omega, by omega⟩
end Go.Proofs.Ytgcjbbliaelkcaa
namespace Go.Proofs.Ytgcjbbliaelkcaa
open Go.RowKit

theorem infoU8 : (Try.prog.info? 5).map (fun i => (i.zero, i.size, i.bytes)) = some (some (.int .u8 0), 1, 1) := by kernel_rfl
theorem strI (d : List UInt8) : (str d).toList = d := by rw [ByteArray.toList_eq]; exact str_toList d
/-- A piece of the call's own: its value reads as bytes, and its text. -/
theorem own_text {w w0 : World} {v : Value} {d : List UInt8} (h : w.ownsRow w0.heap.size 5 1 v d.length (byts d)) :
    ∃ A c, v = .slice A d.length c ∧ RdB w (.slice A d.length c) d ∧ (convert 32 9 (.slice A d.length c)).run Try.prog w = .ok (.string (str d)) w := by
  obtain ⟨A, c, rfl, _⟩ := own_form h
  exact ⟨A, c, rfl, RdB.of_own h, conv_bytes w _ _ _ Try.underlying32 Try.underlying5 Try.underlying9 (RdB.of_own h)⟩

theorem conv_own {w : World} {A : Option Addr} {c : Nat} {d : List UInt8} (h : RdB w (.slice A d.length c) d) : (convert 32 9 (.slice A d.length c)).run Try.prog w = .ok (.string (str d)) w :=
  conv_bytes w _ _ _ Try.underlying32 Try.underlying5 Try.underlying9 h

/-- The same, the length spelled as asked. -/
theorem own_textN {w w0 : World} {v : Value} {d : List UInt8} {n : Nat} (hn : d.length = n) (h : w.ownsRow w0.heap.size 5 1 v d.length (byts d)) :
    ∃ A c, v = .slice A n c ∧ RdB w (.slice A n c) d ∧ (convert 32 9 (.slice A n c)).run Try.prog w = .ok (.string (str d)) w := by
  subst hn; exact own_text h
theorem conv_ownN {w : World} {A : Option Addr} {c : Nat} {d : List UInt8} {n : Nat} (hn : d.length = n) (h : RdB w (.slice A n c) d) : (convert 32 9 (.slice A n c)).run Try.prog w = .ok (.string (str d)) w := by
  subst hn; exact conv_own h

end Go.Proofs.Ytgcjbbliaelkcaa
namespace Go.Proofs.Ytgcjbbliaelkcaa
open Go.RowKit


set_option maxHeartbeats 400000 in
theorem bytesClone_any {v : Value} {d : List UInt8} {w : World} (h : RdB w v d) (hn : d.length ≤ 100000000) :
    Calls Try.prog 31 #[v] w fun e w' => ∃ v', e = .returned v' ∧ w'.ownsRow w.heap.size 5 1 v' d.length (byts d) ∧ Fr0 w w' := by
  obtain ⟨A, c, rfl, hnc, hcm, hnone⟩ := h.form
  obtain ⟨i0, hiW, hz0, hz1, hz2⟩ := info_parts infoU8
  have qT : ∀ (w : World) (a : Option Addr) (n c n' c' : Nat), (binOp .eql 32 (.slice a n c) (.slice none n' c')).run Try.prog w = .ok (.bool a.isNone) w := fun w a n c n' c' => Lib.run_eql_slice_nil w _ _ a n c n' c' Try.underlying32
  cases A with
  | none =>
    obtain rfl : c = 0 := hnone rfl
    have hd : d = [] := List.eq_nil_of_length_eq_zero (by omega)
    subst hd
    go_enter Try.func31, Try.ntmps31
    go_wp2
    go_ret
    exact ⟨_, rfl, World.ownsRow_nil _ _ _ _, Fr0.refl _⟩
  | some a =>
    have hown : (w.alloc (.cells #[] 5)).ownsRow w.heap.size 5 1 (.slice (some ⟨w.heap.size, 0, none⟩) 0 0) 0 [] := own_empty (heap_alloc_new w _) (Nat.le_refl _)
    have hnews := (Rd.fr0 h (Fr0.alloc (Fr0.refl w) (.cells #[] 5))).news
    clear h
    go_enter Try.func31, Try.ntmps31
    go_wp2_with (at_builtin; refine wpList_append_own _ rfl _ _ 32 rfl w.heap.size 5 i0 (.int .u8 0) 1 1 Try.underlying32 hiW hz0 hz1 hz2 rfl (by decide) _ _ _ rfl hown a d.length c (byts d) rfl (byts_len d) hnews (byts_one d) (by unfold maxLen; omega) (by omega) (by simp) ?_; intro v' w1 hown' hgrow _)
    go_ret
    refine ⟨_, rfl, ?_, ?_⟩
    · simpa using hown'
    · exact Fr.grown (Fr.alloc (Fr0.refl w) _) hgrow (fun k hk => .inr (by cases hk; exact Nat.le_refl _))

theorem own_baseW {w : World} {t : TypeId} {size n b b' : Nat} {v : Value} {xs : List Value} (h : w.ownsRow b t size v n xs) (hb : b' ≤ b) : w.ownsRow b' t size v n xs :=
  ⟨h.1, h.2.imp id (by rintro ⟨g, cap, cur, h1, h2, h3⟩; exact ⟨g, cap, cur, h1, Nat.le_trans hb h2, h3⟩)⟩
end Go.Proofs.Ytgcjbbliaelkcaa
namespace Go.Proofs.Ytgcjbbliaelkcaa

theorem run_append_none {P : Program} (w : World) (base : Nat) (t tx ty e e' : TypeId) (i : TypeInfo) (ht : P.underlying t = some (.slice e)) (hk : P.underlying tx = some (.slice e')) (hi : P.info? e = some i)
    (v : Value) (n : Nat) (xs : List Value) (hown : w.ownsRow base e i.size v n xs) (c : Nat) :
    (Builtin.append_ #[t, tx] ty #[v, .slice none 0 c]).run P w = .ok v w := by
  rcases hown.2 with ⟨rfl, rfl⟩ | ⟨g, cap, cur, rfl, hbg, hg, hnc, hcm, hcs, htake⟩
  · simp [Builtin.append_, run_underlying ht, run_underlying hk, sizeOf, typeInfo, hi, Builtin.lenOf, Builtin.firstCells]
  · have := run_append_room_src (P := P) w t tx ty e i ht hi g 0 n cap (.slice none 0 c) 0 [] (Src.ofNil (P := P) w hk c) (by omega) (fun j hj => by simp at hj) (fun j hj => by simp at hj)
    rw [this]
    simp [World.setCells]

theorem wpList_append_rd {P : Program} (w : World) {ops : Array Oper} {rest : List Oper} {o : Oper} {a : Act} {Q : Exit → Act → World → Prop} (hgd : o.guard = none) (s x : Operand) (t : TypeId)
    (ho : o.op = .call { callee := .builtin .append, args := #[s, x], argTypes := #[t, t] })
    (base : Nat) (e : TypeId) (i : TypeInfo) (z : Value) (size bytes : Nat) (ht : P.underlying t = some (.slice e)) (hi : P.info? e = some i) (hz : i.zero = some z)
    (hsize : i.size = size) (hby : i.bytes = bytes) (hzs : z.cells.size = size) (hsz : 0 < size)
    (v : Value) (n : Nat) (xs : List Value) (hs : a.eval s = v) (hown : w.ownsRow base e size v n xs)
    (v2 : Value) (m : Nat) (news : List Value) (hx : a.eval x = v2) (hr : Rd w size v2 m news) (h1 : ∀ u ∈ news, u.oneCell' = true)
    (h63 : n + m ≤ maxLen) (hbytes : (n + m) * bytes ≤ 140737488355328) (hbase : base ≤ w.heap.size)
    (h : ∀ v' w', w'.ownsRow base e size v' (n + m) (xs ++ news) → w.grownBy w' v.ownBlock → wpList P ops Q rest (a.put o.dst v') w') :
    wpList P ops Q (o :: rest) a w := by
  obtain ⟨A, c, rfl, hnc, hcm, hnone⟩ := hr.form
  cases A with
  | some ad => exact wpList_append_own_at (P := P) w hgd s x t ho base e i z size bytes ht hi hz hsize hby hzs hsz v n xs hs hown ad m c news hx hr.len hr.news h1 h63 hbytes hbase (fun v' w' h2 h3 _ _ => h v' w' h2 h3)
  | none =>
    have hc : c = 0 := hnone rfl
    have hm : m = 0 := by omega
    subst hc hm
    have hnews : news = [] := List.eq_nil_of_length_eq_zero (by rw [hr.len]; omega)
    subst hnews
    refine wpList_plain hgd fun K hK => ?_
    have hrun := run_append_none (P := P) w base t t o.type e e i ht ht hi v n xs (by rw [hsize]; exact hown) 0
    unfold Oper.wp execOp
    simp only [ho, resolve, invoke, builtin, Sem.run_bind, Sem.run_pure, Result.andThen_ok, List.map_toArray, List.map_cons, List.map_nil, hs, hx, hrun]
    exact hK _ _ (h v w (by simpa using hown) ⟨rfl, rfl, rfl, Nat.le_refl _, fun _ _ _ => rfl⟩)
end Go.Proofs.Ytgcjbbliaelkcaa
namespace Go.Proofs.Ytgcjbbliaelkcaa
open Go.RowKit

set_option maxHeartbeats 400000 in
theorem open_any {v : Value} {d : List UInt8} {w : World} (h : RdB w v d) (hn : d.length ≤ 100000000) :
    Calls Try.prog 36 #[v] w fun e w' => ∃ p v', e = .returned (.pointer (some ⟨p, 0, none⟩)) ∧ Blk w' p #[v', .int .i64 0] 109 ∧ w'.ownsRow w.heap.size 5 1 v' d.length (byts d) ∧ Fr0 w w' ∧ w.heap.size ≤ p := by
  have hC := Lib.hid (bytesClone_any h hn)
  clear h
  go_enter Try.func36, Try.ntmps36
  go_wp2_with (go_at_call 31; refine (hC.out).mono ?_; rintro e w1 ⟨v1, rfl, hown, hf⟩; obtain ⟨A1, c1, rfl, -, -, -⟩ := own_form hown)
  go_ret
  exact ⟨_, _, rfl, Blk.new _ _ _, hown.alloc _, hf.alloc _, hf.size⟩

end Go.Proofs.Ytgcjbbliaelkcaa
namespace Go.Proofs.Ytgcjbbliaelkcaa
open Go.RowKit

/-- A reader, its slice named. -/
structure RdrV (w : World) (p : Nat) (A : Option Addr) (c : Nat) (d : List UInt8) (e : Int) : Prop where
  blk : Blk w p #[.slice A d.length c, .int .i64 e] 109
  rd : RdB w (.slice A d.length c) d
  ty : TyB w (.slice A d.length c) 5

section
variable {w w' : World} {p b : Nat} {A : Option Addr} {c : Nat} {d : List UInt8} {e : Int}
theorem RdrV.fr0 (h : RdrV w p A c d e) (hf : Fr0 w w') : RdrV w' p A c d e := ⟨h.blk.fr0 hf, h.rd.fr0 hf, h.ty.fr0 hf⟩
theorem RdrV.frT (h : RdrV w p A c d e) {vs : Array Value} {t : TypeId} (hb : Blk w b vs t) (ht : 109 ≠ t) (ht2 : 5 ≠ t) (hf : Fr1 b w w') : RdrV w' p A c d e :=
  ⟨h.blk.fr1 hf (h.blk.ne hb ht), Rd.frT h.rd h.ty hf hb ht2, h.ty.fr1 hf hb ht2⟩
end

theorem slice_to {P : Program} {T e : TypeId} (ht : P.underlying T = some (.slice e)) (hs : ∀ w, (sizeOf e).run P w = .ok 1 w) {A : Option Addr} {n c k : Nat} (hk : k ≤ c) (w : World) :
    (Instr.slice T (.slice A n c) none (some (.int .i64 (k : Int))) none).run P w = .ok (.slice A k c) w := by
  have hel : P.elem T = e := by simp [Program.elem, ht]
  rw [run_slice_h (w := w) T A n c (by rw [hel]; exact ht) .i64 (k : Int) (by omega) (by omega), hel, hs w]
  simp [Result.andThen, sliced, Addr.add]

set_option maxHeartbeats 400000 in
theorem take_nil (fv : Value) (w : World) :
    Calls Try.prog 52 #[.pointer none, fv] w fun e w' => e = .returned (.slice none 0 0) ∧ w' = w := by
  go_enter Try.func52, Try.ntmps52
  go_wp2_with fail
  go_ret
  exact ⟨rfl, rfl⟩

set_option maxHeartbeats 400000 in
theorem take_err {p : Nat} {A : Option Addr} {c : Nat} {d : List UInt8} {er : Int} {w : World} (h : RdrV w p A c d er) (he : er ≠ 0) (fv : Value) :
    Calls Try.prog 52 #[.pointer (some ⟨p, 0, none⟩), fv] w fun e w' => e = .returned (.slice none 0 0) ∧ w' = w := by
  have c1 : w.cell? ⟨p, 1, none⟩ = some (.int .i64 er) := h.blk.cell 1 rfl
  have hb : (er != 0) = true := by simpa using he
  clear h he
  go_enter Try.func52, Try.ntmps52
  go_wp2_with fail
  go_ret
  exact ⟨rfl, rfl⟩

/-- What a step may do: it keeps the reader; G: what else it leaves. -/
structure StepFn (w : World) (p : Nat) (A : Option Addr) (c : Nat) (d : List UInt8) (fv : Value) (n : Nat) (er : Int) (G : World → Prop) : Prop where
  some_fn : ∃ fn recv cap, fv = .func (.func fn) recv cap ∧ (∀ (args : Array Value) (w1 : World), (callFunc fn args).run Try.prog w1 = .ok (.enter fn args) w1) ∧
    Calls Try.prog fn (recv ++ cap) w fun e w' => e = .returned (.tuple #[.int .i64 n, .int .i64 er]) ∧ G w'
  keeps : ∀ w', G w' → RdrV w' p A c d 0
  fits : er = 0 → n ≤ d.length

set_option maxHeartbeats 400000 in
theorem wtake_any {p : Nat} {A : Option Addr} {c : Nat} {d : List UInt8} {w : World} {fv : Value} {n : Nat} {er : Int} {G : World → Prop} (h : RdrV w p A c d 0) (hs : StepFn w p A c d fv n er G) :
    Calls Try.prog 52 #[.pointer (some ⟨p, 0, none⟩), fv] w fun e w' => ∃ w1 v, e = .returned v ∧ G w1 ∧ Fr1 p w1 w' ∧
      (er ≠ 0 → v = .slice none 0 0 ∧ RdrV w' p A c d er) ∧ (er = 0 → (∃ A' c', RdrV w' p A' c' (d.drop n) 0) ∧ v = .slice A n c ∧ RdB w' v (d.take n) ∧ TyB w' v 5) := by
  obtain ⟨⟨fn, recv, cap, rfl, hbody, hcall⟩, hk, hfit⟩ := hs
  have c1 : w.cell? ⟨p, 1, none⟩ = some (.int .i64 0) := h.blk.cell 1 rfl
  have HC := Lib.hid hcall
  have HK := Lib.hid hk
  have HF := Lib.hid hfit
  have hcap : d.length ≤ c := by obtain ⟨A', c', hv, h1, _⟩ := RdB.form h.rd; injection hv with _ _ hc; omega
  clear hcall hk hfit h
  by_cases he : er = 0
  · subst he
    have hn := HF.out rfl
    have hsl : ∀ w', (Instr.slice 32 (.slice A d.length c) none (some (.int .i64 (n : Int))) none).run Try.prog w' = .ok (.slice A n c) w' := fun w' => slice_to Try.underlying32 (fun _ => by kernel_rfl) (by omega) w'
    clear HF
    go_enter Try.func52, Try.ntmps52
    go_wp2_with fail
    refine (HC.out).mono ?_
    rintro e w1 ⟨rfl, hG⟩
    have h1 := HK.out w1 hG
    have c0 : w1.cell? ⟨p, 0, none⟩ = some (.slice A d.length c) := h1.blk.cell 0 rfl
    have f0 : w1.frozen? ⟨p, 0, none⟩ = false := h1.blk.free 0
    obtain ⟨A', hsl2, hr2, hbk⟩ := slice_from (P := Try.prog) (T := 32) (e := 5) Try.underlying32 (fun _ => by kernel_rfl) (k := n) h1.rd hn (n : Int) rfl
    have H1 := Lib.hid h1
    have H2 := Lib.hid hr2
    have HB := Lib.hid hbk
    clear h1 hr2 hbk
    go_wp2_with fail
    go_ret
    have h1 := H1.out
    have hf : Fr1 p w1 (w1.setCell ⟨p, 0, none⟩ (.slice A' (d.length - n) (c - n))) := Fr.setCell (S := fun b => b = p) (p := ⟨p, 0, none⟩) (Fr.refl _ w1) (.inl rfl) _
    have ht : TyB w1 (.slice A n c) 5 := fun g hg => h1.ty g (by cases A with | none => cases hg | some a => exact hg)
    have hr3 : RdB w1 (.slice A n c) (d.take n) := RdB.take h1.rd hn
    have ht' : TyB w1 (.slice A' (d.length - n) (c - n)) 5 := fun g hg => h1.ty g (HB.out g hg)
    have hne : 5 ≠ 109 := by decide
    have hl : (d.drop n).length = d.length - n := List.length_drop
    refine ⟨w1, _, rfl, hG, hf, fun h => absurd rfl h, fun _ => ⟨⟨A', c - n, ?_, ?_, ?_⟩, rfl, ?_, ?_⟩⟩
    · rw [hl]; exact h1.blk.set 0 _
    · rw [hl]; exact Rd.frT H2.out ht' hf h1.blk hne
    · rw [hl]; exact ht'.fr1 hf h1.blk hne
    · exact Rd.frT hr3 ht hf h1.blk hne
    · exact ht.fr1 hf h1.blk hne
  · have hb : (er != 0) = true := by simpa using he
    go_enter Try.func52, Try.ntmps52
    go_wp2_with fail
    refine (HC.out).mono ?_
    rintro e w1 ⟨rfl, hG⟩
    have h1 := HK.out w1 hG
    have f1 : w1.frozen? ⟨p, 1, none⟩ = false := h1.blk.free 1
    have c2 : w1.cell? ⟨p, 1, none⟩ = some (.int .i64 0) := h1.blk.cell 1 rfl
    have H1 := Lib.hid h1
    clear h1
    go_wp2_with fail
    go_ret
    have h1 := H1.out
    have hf : Fr1 p w1 (w1.setCell ⟨p, 1, none⟩ (.int .i64 er)) := Fr.setCell (S := fun b => b = p) (p := ⟨p, 1, none⟩) (Fr.refl _ w1) (.inl rfl) _
    have hne : 5 ≠ 109 := by decide
    exact ⟨w1, _, rfl, hG, hf, fun _ => ⟨rfl, h1.blk.set 1 _, Rd.frT h1.rd h1.ty hf h1.blk hne, h1.ty.fr1 hf h1.blk hne⟩, fun h => absurd h he⟩
end Go.Proofs.Ytgcjbbliaelkcaa
namespace Go.Proofs.Ytgcjbbliaelkcaa
open Go.RowKit

/-- The last k bytes of a number, the highest first. -/
def fixForm (n : Nat) : Nat → List UInt8
  | 0 => []
  | k + 1 => UInt8.ofNat (n / 256 ^ k % 256) :: fixForm n k
theorem fixForm_len (n : Nat) : ∀ k, (fixForm n k).length = k
  | 0 => rfl
  | k + 1 => by simp [fixForm, fixForm_len n k]
/-- A fixed number's form: the sizes that may be. -/
def fixed (n : Nat) (size : Int) : List UInt8 := if size < 1 ∨ 8 < size then [] else fixForm n size.toNat

theorem pow8 (i : Nat) : 2 ^ (8 * i) = 256 ^ i := by rw [Nat.pow_mul]
theorem shr8 (n i : Nat) (hiW : i ≤ 7) : (n : Int) / 2 ^ ((8 * (i : Int)).toNat) = ((n / 256 ^ i : Nat) : Int) := by
  have e : (8 * (i : Int)).toNat = 8 * i := by omega
  rw [e, ← pow8]
  simp

theorem own_at {w : World} {base size n cap g : Nat} {t : TypeId} {xs : List Value} (h : w.ownsRow base t size (.slice (some ⟨g, 0, none⟩) n cap) n xs) {j : Nat} {u : Value} (hj : xs[j]? = some u) :
    w.cell? ⟨g, j, none⟩ = some u ∧ w.frozen? ⟨g, j, none⟩ = false := by
  rcases h.2 with ⟨h', _⟩ | ⟨g', cap', cur, h', hb, hg, hnc, hcm, hcs, htake⟩
  · cases h'
  · injection h' with hA _ hc
    injection hA with hA
    injection hA with hA
    subst hA hc
    have := (Rd.of_own h).news j u hj
    have hadd : (⟨g, 0, none⟩ : Addr).add j = ⟨g, j, none⟩ := by unfold Addr.add; split <;> simp_all
    rw [hadd] at this
    exact ⟨this, by simp [World.frozen?, hg]⟩

set_option maxHeartbeats 400000 in
theorem wireFixed_bad (n : Nat) (size : Int) (hb : size < 1 ∨ 8 < size) (w : World) :
    Calls Try.prog 28 #[.int .u64 (n : Int), .int .i64 size] w fun e w' => e = .returned (.slice none 0 0) ∧ w' = w := by
  by_cases k0 : size < 1
  · have q0 : decide (size < 1) = true := by simpa using k0
    clear k0 hb
    go_enter Try.func28, Try.ntmps28
    go_wp2_with fail
    go_ret
    exact ⟨rfl, rfl⟩
  · have q0 : decide (size < 1) = false := by simpa using k0
    have q1 : decide (8 < size) = true := by simp; omega
    clear k0 hb
    go_enter Try.func28, Try.ntmps28
    go_wp2_with fail
    go_ret
    exact ⟨rfl, rfl⟩

set_option maxHeartbeats 400000 in
set_option maxRecDepth 100000 in
theorem wireFixed_good (n : Nat) (size : Nat) (hn : n < 18446744073709551616) (h1 : 1 ≤ size) (h8 : size ≤ 8) (w : World) :
    Calls Try.prog 28 #[.int .u64 (n : Int), .int .i64 (size : Int)] w fun e w' => ∃ v, e = .returned v ∧ w'.ownsRow w.heap.size 5 1 v size (byts (fixForm n size)) ∧ Fr0 w w' := by
  obtain ⟨i0, hiW, hz0, hz1, hz2⟩ := info_parts infoU8
  obtain ⟨W, hmk, hown, hgr⟩ := run_make_full (P := Try.prog) w w.heap.size 32 5 i0 (.int .u8 0) 1 Try.underlying32 hiW hz0 hz1 .i64 .i64 size (by rw [hz2]; omega) (by unfold maxLen; omega) (Nat.le_refl _)
  have HO := Lib.hid hown
  have HG := Lib.hid hgr
  have q0 : decide ((size : Int) < 1) = false := by simp; omega
  have q1 : decide (8 < (size : Int)) = false := by simp; omega
  have h0 : (0 : Int) ≤ size := by omega
  clear hown hgr hiW hz0 hz1 hz2
  go_enter Try.func28, Try.ntmps28
  go_wp2_with fail
  clear hmk q0 q1 h0
  go_loopw [16] (fun v16 wr => ∃ i : Nat, v16 = .int .i64 (i : Int) ∧ i ≤ size ∧ Fr0 w wr ∧ wr.ownsRow w.heap.size 5 1 (.slice (some ⟨w.heap.size, 0, none⟩) size size) size (byts (List.replicate (size - i) 0 ++ fixForm n i))) (fun v16 _ => size - (intOf v16).toNat)
  case atStart =>
    refine ⟨0, rfl, by omega, (Fr0.refl w).grown HG.out (fun k hk => by cases hk), ?_⟩
    have := HO.out
    rw [show (Value.int IntKind.u8 0).cells = #[.int .u8 0] from rfl, toList_madeCells_one] at this
    simpa [fixForm, byts] using this
  case round =>
    obtain ⟨i, rfl, hiW, hf, hown⟩ := hrel
    by_cases hlt : i < size
    · have hidx : ((size : Int) - 1 - i).toNat = size - 1 - i := by omega
      have e0 : (0 : Int) ≤ (size : Int) - 1 - i := by omega
      have e1 : (size : Int) - 1 - i < size := by omega
      have e2 : IntKind.i64.wrap ((size : Int) - 1) = (size : Int) - 1 := IntWalk.i64_in _ (by omega)
      have e3 : IntKind.i64.wrap ((size : Int) - 1 - i) = (size : Int) - 1 - i := IntWalk.i64_in _ (by omega)
      have e4 : IntKind.i64.wrap (8 * (i : Int)) = 8 * (i : Int) := IntWalk.i64_in _ (by omega)
      have es := shr8 n i (by omega)
      have eo : ((n / 256 ^ i : Nat) : Int) % 256 = ((UInt8.ofNat (n / 256 ^ i % 256)).toNat : Int) := by rw [u8_of _ (by omega)]; omega
      obtain ⟨cB, fB⟩ := own_at hown (j := size - 1 - i) (u := .int .u8 (0 : UInt8).toNat) (by rw [byts, List.getElem?_map, List.getElem?_append_left (by simp; omega), List.getElem?_replicate_of_lt (by omega)]; rfl)
      have HO := Lib.hid hown
      have EO := Lib.hid eo
      clear hown eo
      go_wp2_with fail
      clear hidx e0 e1 e2 e3 e4 es cB fB
      go_roundw
      case measure => simp [intOf]; omega
      refine ⟨i + 1, by simp, by omega, Fr.setCell (p := ⟨w.heap.size, size - 1 - i, none⟩) hf (.inr (Nat.le_refl _)) _, ?_⟩
      have := ((HO.out).stored (size - 1 - i) (.int .u8 ((n : Int) / 256 ^ i % 256))).1
      have e : (byts (List.replicate (size - i) 0 ++ fixForm n i)).set (size - 1 - i) (.int .u8 ((n : Int) / 256 ^ i % 256)) = byts (List.replicate (size - (i + 1)) 0 ++ fixForm n (i + 1)) := by
        have h2 : ((n : Int) / 256 ^ i % 256) = ((UInt8.ofNat (n / 256 ^ i % 256)).toNat : Int) := by rw [← EO.out]; simp
        rw [h2, show size - i = (size - 1 - i) + 1 by omega, List.replicate_succ', show size - (i + 1) = size - 1 - i by omega]
        simp [byts, fixForm]
      rwa [e] at this
    · have e : i = size := by omega
      subst e
      have HO := Lib.hid hown
      clear hown
      go_wp2_with fail
      go_ret
      exact ⟨_, rfl, by simpa using HO.out, hf⟩

theorem wireFixed_any (n : Nat) (size : Int) (hn : n < 18446744073709551616) (w : World) :
    Calls Try.prog 28 #[.int .u64 (n : Int), .int .i64 size] w fun e w' => ∃ v, e = .returned v ∧ w'.ownsRow w.heap.size 5 1 v (fixed n size).length (byts (fixed n size)) ∧ Fr0 w w' := by
  by_cases hb : size < 1 ∨ 8 < size
  · refine (wireFixed_bad n size hb w).mono ?_
    rintro e w' ⟨rfl, rfl⟩
    rw [show fixed n size = [] from if_pos hb]
    exact ⟨_, rfl, World.ownsRow_nil _ _ _ _, Fr0.refl _⟩
  · obtain ⟨k, rfl⟩ : ∃ k : Nat, size = k := ⟨size.toNat, by omega⟩
    rw [show fixed n (k : Int) = fixForm n k from by unfold fixed; rw [if_neg hb]; rfl, fixForm_len]
    exact wireFixed_good n k hn (by omega) (by omega) w
end Go.Proofs.Ytgcjbbliaelkcaa
set_option linter.unusedSimpArgs false
set_option linter.unusedVariables false
namespace Go.Proofs.Ytgcjbbliaelkcaa
open Go.RowKit

theorem fixForm_at (n : Nat) : ∀ (k j : Nat), j < k → (fixForm n k).getD j 0 = UInt8.ofNat (n / 256 ^ (k - 1 - j) % 256)
  | k + 1, 0, _ => rfl
  | k + 1, j + 1, h => by
    rw [fixForm, List.getD_cons_succ, fixForm_at n k j (by omega), show k + 1 - 1 - (j + 1) = k - 1 - j by omega]
/-- What a stream's block hides. -/
def ctrB (n i : Nat) : List UInt8 := fixForm n 8 ++ fixForm i 8
theorem ctrB_len (n i : Nat) : (ctrB n i).length = 16 := by unfold ctrB; rw [List.length_append, fixForm_len, fixForm_len]
def ctrP (n i k : Nat) : List UInt8 := fillU (fixForm n 8) 8 k ++ fillU (fixForm i 8) 8 k
theorem ctrP_len (n i : Nat) {k : Nat} (h : k ≤ 8) : (ctrP n i k).length = 16 := by unfold ctrP; rw [List.length_append, fillU_len (fixForm_len n 8) h, fillU_len (fixForm_len i 8) h]
theorem ctrP_zero (n i : Nat) : ctrP n i 0 = List.replicate 16 0 := rfl
theorem ctrP_all (n i : Nat) : ctrP n i 8 = ctrB n i := by unfold ctrP ctrB; rw [fillU_all (fixForm_len n 8), fillU_all (fixForm_len i 8)]
theorem ctrP_step (n i : Nat) {k : Nat} (h : k < 8) : ((ctrP n i k).set k ((fixForm n 8).getD k 0)).set (8 + k) ((fixForm i 8).getD k 0) = ctrP n i (k + 1) := by
  unfold ctrP
  have h1 := fillU_len (fixForm_len n 8) (Nat.le_of_lt h)
  have h2 := fillU_len (fixForm_len n 8) (show k + 1 ≤ 8 by omega)
  rw [List.set_append_left _ _ (by rw [h1]; exact h), fillU_set (fixForm_len n 8) h, List.set_append_right _ _ (by rw [h2]; omega), h2, Nat.add_sub_cancel_left, fillU_set (fixForm_len i 8) h]
/-- The block i of a stream. -/
def blkL (key : List UInt8) (n i : Nat) : List UInt8 := hidL key (ctrB n i)
theorem blkL_len (key : List UInt8) (n i : Nat) : (blkL key n i).length = 16 := hidL_len _ _
theorem cidx (k : Nat) (hk : k < 8) : ∃ m : Nat, m = 7 - k ∧ m ≤ 7 ∧ IntKind.i64.wrap (7 - (k : Int)) = (m : Int) ∧ (7 - (k : Int)) = (m : Int) ∧ IntKind.i64.wrap (8 * (m : Int)) = 8 * (m : Int) ∧ IntKind.u64.wrap (8 * (m : Int)) = 8 * (m : Int) ∧ (8 * (m : Int)).toNat = 8 * m ∧
    IntKind.i64.wrap (8 * (k : Int)) = 8 * (k : Int) ∧ IntKind.i64.wrap (56 - 8 * (k : Int)) = 56 - 8 * (k : Int) ∧ (56 - 8 * (k : Int)).toNat = 8 * m ∧ (0 : Int) ≤ 56 - 8 * (k : Int) ∧ IntKind.i64.wrap (8 + (k : Int)) = 8 + (k : Int) ∧ (8 + (k : Int)).toNat = 8 + k ∧ (0 : Int) ≤ 8 + (k : Int) ∧ 8 + (k : Int) < 16 ∧ 8 * (k : Int) ≤ 56 :=
  ⟨7 - k, rfl, by omega, by rw [IntWalk.i64_in _ (by omega)]; omega, by omega, IntWalk.i64_in _ (by omega), by rw [IntKind.wrap_u64]; omega, by omega, IntWalk.i64_in _ (by omega), IntWalk.i64_in _ (by omega), by omega, by omega, IntWalk.i64_in _ (by omega), by omega, by omega, by omega, by omega⟩
theorem shrF (n k m : Nat) (hm : m = 7 - k) (hk : k < 8) : (n : Int) / 2 ^ (8 * m) % 256 = (((fixForm n 8).getD k 0).toNat : Int) := by
  rw [fixForm_at n 8 k hk, show 8 - 1 - k = m by omega, u8_of _ (by omega)]
  have h := shr8 n m (by omega)
  rw [show (8 * (m : Int)).toNat = 8 * m by omega] at h
  rw [h]
  omega
set_option maxHeartbeats 4000000 in
set_option maxRecDepth 100000 in
theorem pblock_any {key : List UInt8} {n i gn gk : Nat} {w : World} (hk : key.length = 16) (hn : n < 18446744073709551616) (hi : i < 4611686018427387904) (hbn : Blk w gn #[.int .u64 (n : Int)] 31) (hbk : Blk w gk (byts key).toArray 22) :
    Calls Try.prog 65 #[.int .i64 (i : Int), .pointer (some ⟨gn, 0, none⟩), .pointer (some ⟨gk, 0, none⟩)] w fun e w' => e = .returned (.agg (byts (blkL key n i)).toArray) ∧ Fr0 w w' := by
  have HRH := Lib.hid (fun W => show Calls Try.prog 66 #[.agg (byts key).toArray, .agg (byts (ctrB n i)).toArray] W (fun e w' => e = .returned (.agg (byts (blkL key n i)).toArray) ∧ Fr0 W w') from ahide_any hk (ctrB_len n i))
  have OL := Lib.hid (blkL_len key n i)
  have HIO := Lib.hid (a16_info OL.out)
  have HZO := Lib.hid (z16_size OL.out)
  have hao := byts_all (blkL key n i)
  have HIB := Lib.hid (a16_info (ctrB_len n i))
  have HIK := Lib.hid (a16_info hk)
  have PL := Lib.hid (fun k (h : k ≤ 8) => ctrP_len n i h)
  have P0 := Lib.hid (ctrP_zero n i)
  have P8 := Lib.hid (ctrP_all n i)
  have PS := Lib.hid (fun k (h : k < 8) => ctrP_step n i h)
  have SN := Lib.hid (fun k m h1 h2 => shrF n k m h1 h2)
  have SI := Lib.hid (fun k m h1 h2 => shrF i k m h1 h2)
  have HRUN := Lib.hid (fun W => z16_run W)
  have BN := Lib.hid hbn
  have BK := Lib.hid hbk
  obtain ⟨out, hout⟩ : ∃ o, o = blkL key n i := ⟨_, rfl⟩
  obtain ⟨P, hP⟩ : ∃ o, o = ctrP n i := ⟨_, rfl⟩
  obtain ⟨B, hB⟩ : ∃ o, o = ctrB n i := ⟨_, rfl⟩
  obtain ⟨FN, hFN⟩ : ∃ o, o = fixForm n 8 := ⟨_, rfl⟩
  obtain ⟨FI, hFI⟩ : ∃ o, o = fixForm i 8 := ⟨_, rfl⟩
  rw [← hout] at HRH HIO HZO hao OL ⊢
  rw [← hB] at HRH P8 HIB
  rw [← hP] at PL P0 P8 PS
  rw [← hFN] at SN PS
  rw [← hFI] at SI PS
  obtain ⟨z, hz⟩ : ∃ z, z = z16A := ⟨_, rfl⟩
  rw [← hz] at HRUN HZO
  have HZZ := Lib.hid (hz.trans (show z16A = (byts (List.replicate 16 0)).toArray from rfl))
  obtain ⟨ck, hck⟩ : ∃ c, c = (byts key).toArray := ⟨_, rfl⟩
  rw [← hck] at BK HRH HIK
  clear hout hP hB hFN hFI hz hck hk hbn hbk
  go_enter Try.func65, Try.ntmps65
  go_upto_region 3 with (first
    | (have _q := Z8; refine list_alloc_blk rfl 22 rfl z HRUN.out ?_; intro g9 w9 hB hF hl; have Z9 := Lib.hid hB; have F9 := Lib.hid hF; have L9 := Lib.hid hl; clear hB hF hl)
    | (refine list_alloc_blk rfl 22 rfl z HRUN.out ?_; intro g8 w8 hB hF hl; have Z8 := Lib.hid hB; have F8 := Lib.hid hF; have L8 := Lib.hid hl; clear hB hF hl))
  have l8 := L8.out
  have l9 := L9.out
  have lz := (Z8.out).lt
  have s8 := (F8.out).size
  have ln := (BN.out).lt
  have lk := (BK.out).lt
  have nk9 : gk ≠ g9 := by omega
  have nn9 : gn ≠ g9 := by omega
  have n89 : g8 ≠ g9 := by omega
  have LG8 := Lib.hid (show w.heap.size ≤ g8 by omega)
  have LG9 := Lib.hid (show w.heap.size ≤ g9 by omega)
  have K := Lib.hid (((BK.out).fr0 F8.out).fr0 F9.out)
  have N := Lib.hid (((BN.out).fr0 F8.out).fr0 F9.out)
  have Z := Lib.hid ((Z8.out).fr0 F9.out)
  have F := Lib.hid (Fr0.trans F8.out F9.out)
  have C := Lib.hid (show Blk w9 g9 (byts (P 0)).toArray 22 by rw [P0.out, ← HZZ.out]; exact Z9.out)
  clear l8 l9 lz s8 ln lk F8 F9 L8 L9 Z8 Z9 BN BK
  go_loopw [7] (fun v7 wr => ∃ k : Nat, k ≤ 8 ∧ v7 = .int .i64 (k : Int) ∧ Blk wr gk ck 22 ∧ Blk wr gn #[.int .u64 (n : Int)] 31 ∧ Blk wr g9 (byts (P k)).toArray 22 ∧ Blk wr g8 z 22 ∧ Fr0 w wr) (fun v7 _ => 8 - (intOf v7).toNat)
  case atStart => exact ⟨0, by omega, rfl, K.out, N.out, C.out, Z.out, F.out⟩
  case round =>
    obtain ⟨k, hk, rfl, hK, hN, hC, hZ, hF⟩ := hrel
    clear K N C Z F
    have K := Lib.hid hK
    have N := Lib.hid hN
    have Z := Lib.hid hZ
    have F := Lib.hid hF
    by_cases hlk : k < 8
    · have k0 : (0 : Int) ≤ (k : Int) := by omega
      have k1 : (k : Int) < 8 := by omega
      have k2 : (k : Int) < 16 := by omega
      obtain ⟨m, hm, hm7, -, -, -, -, -, q1, q2, q3, q4, q5, q6, q7, q8, q9⟩ := cidx k hlk
      have sn := SN.out k m hm hlk
      have si := SI.out k m hm hlk
      have hst := PS.out k hlk
      have cn := hN.cell 0 rfl
      obtain ⟨x, hx⟩ : ∃ x, x = FN.getD k 0 := ⟨_, rfl⟩
      obtain ⟨y, hy⟩ : ∃ x, x = FI.getD k 0 := ⟨_, rfl⟩
      rw [← hx] at sn hst
      rw [← hy] at si hst
      have u1 : IntKind.u64.wrap (i : Int) = (i : Int) := by rw [IntKind.wrap_u64]; omega
      have c1 := hC.u8 (i := k) (by rw [PL.out k hk]; omega)
      have c2 := hC.u8 (i := 8 + k) (by rw [PL.out k hk]; omega)
      have f1 := hC.free k
      have f2 := hC.free (8 + k)
      have HN := Lib.hid (show Blk ((wr.setCell ⟨g9, k, none⟩ (.int .u8 (x.toNat : Int))).setCell ⟨g9, 8 + k, none⟩ (.int .u8 (y.toNat : Int))) g9 (byts (P (k + 1))).toArray 22 by rw [← hst]; exact (hC.put8 k x).put8 (8 + k) y)
      have FS := Lib.hid (((Fr1.refl g9 wr).set k (.int .u8 (x.toNat : Int))).set (8 + k) (.int .u8 (y.toNat : Int)))
      clear hK hN hC hZ hF hst hx hy hm hm7
      go_wp2_with fail
      clear q1 q2 q3 q4 q5 q6 q7 q8 q9 sn si u1 c1 c2 f1 f2 cn
      go_roundw
      case rel => exact ⟨k + 1, by omega, by go_num, (K.out).fr1 FS.out nk9, (N.out).fr1 FS.out nn9, HN.out, (Z.out).fr1 FS.out n89, Fr0.new F.out FS.out LG9.out⟩
      case measure => simp [intOf]; omega
    · obtain rfl : k = 8 := by omega
      have C := Lib.hid (show Blk wr g9 (byts B).toArray 22 by rw [← P8.out]; exact hC)
      clear hK hN hC hZ hF
      go_wp2_with (first
        | (have _q := F2; refine list_store_blk rfl 22 _ _ rfl g8 (byts out).toArray rfl rfl 22 z Z2.out HIO.out HZO.out hao ?_; intro w12 hB hF; have C5 := Lib.hid hB; have F12 := Lib.hid (Fr0.new F2.out hF LG8.out); clear hB hF)
        | (go_at_call 66; refine (HRH.out _).mono ?_; rintro e w11 ⟨rfl, hf⟩; have F2 := Lib.hid (Fr0.trans F.out hf); have Z2 := Lib.hid ((Z.out).fr0 hf); clear hf)
        | (refine list_load_blk rfl 22 _ rfl g9 rfl 22 (byts B).toArray C.out _ Try.underlying22 rfl HIB.out ?_)
        | (refine list_load_blk rfl 22 _ rfl gk rfl 22 ck K.out _ Try.underlying22 rfl HIK.out ?_))
      refine bodyPost_ret (v := .agg (byts out).toArray) (results_cell_row rfl _ _ g8 22 (byts out).toArray (0, 0) _ rfl C5.out Try.underlying22 rfl HIO.out) rfl ⟨rfl, F12.out⟩
end Go.Proofs.Ytgcjbbliaelkcaa
namespace Go.Proofs.Ytgcjbbliaelkcaa
open Go.RowKit

theorem app_bytes {ops : Array Oper} {rest : List Oper} {o : Oper} {a : Act} {Q : Exit → Act → World → Prop} (hgd : o.guard = none) (s x : Operand)
    (ho : o.op = .call { callee := .builtin .append, args := #[s, x], argTypes := #[32, 32] }) {w0 w : World} (hf : Fr0 w0 w) {v1 v2 : Value} {L1 L2 : List UInt8} {k1 k2 : Nat}
    (h1 : w.ownsRow w0.heap.size 5 1 v1 k1 (byts L1)) (hs : a.eval s = v1) (h2 : Rd w 1 v2 k2 (byts L2)) (hx : a.eval x = v2) (hl : k1 + k2 ≤ 100000000)
    (h : ∀ A c w', w'.ownsRow w0.heap.size 5 1 (.slice A (k1 + k2) c) (k1 + k2) (byts (L1 ++ L2)) → Fr0 w0 w' → wpList Try.prog ops Q rest (a.put o.dst (.slice A (k1 + k2) c)) w') :
    wpList Try.prog ops Q (o :: rest) a w := by
  obtain ⟨i0, hi, hz0, hz1, hz2⟩ := info_parts infoU8
  refine wpList_append_rd _ hgd s x 32 ho w0.heap.size 5 i0 (.int .u8 0) 1 1 Try.underlying32 hi hz0 hz1 hz2 rfl (by decide) v1 k1 (byts L1) hs h1 v2 k2 (byts L2) hx h2 (byts_one L2) (by unfold maxLen; omega) (by omega) hf.size ?_
  intro v' w' hown hgrow
  rw [← byts_app] at hown
  obtain ⟨A, c, rfl, -, -, -⟩ := own_form hown
  exact h A c w' hown (Fr.grown hf hgrow (fun k hk => .inr (own_lt' h1 k hk).1))
theorem rdb_of {w : World} {v : Value} {k : Nat} {d : List UInt8} (h : Rd w 1 v k (byts d)) : RdB w v d := by
  have := h.len
  rw [byts_len] at this
  obtain rfl : d.length = k := by omega
  exact h
theorem rd_oneW (w : World) (x : Int) : Rd (w.alloc (.cells #[.int .u8 x] 5)) 1 (.slice (some ⟨w.heap.size, 0, none⟩) 1 1) 1 [.int .u8 x] :=
  ⟨rfl, ⟨_, _, rfl, Nat.le_refl _, by unfold maxLen; omega, fun h => by cases h⟩, fun _ => ⟨w.heap.size, 0, 1, _, _, _, rfl, heap_alloc_new w _, fun j u hu => by simpa using hu⟩⟩
theorem one_cell (x : Int) : ∀ u ∈ [Value.int .u8 x], u.oneCell' = true := by simp [Value.oneCell']
end Go.Proofs.Ytgcjbbliaelkcaa
namespace Go.Proofs.Ytgcjbbliaelkcaa
open Go.RowKit

theorem zeroCells_u8 (n : Nat) : Builtin.zeroCells (Value.int .u8 0).cells n = (List.replicate n (Value.int .u8 0)).toArray := by
  apply Array.ext
  · simp [Builtin.zeroCells, Value.cells]
  · intro i h1 h2
    simp [Builtin.zeroCells, Value.cells, Nat.mod_one]
theorem byts_zeros (n : Nat) : byts (List.replicate n 0) = List.replicate n (Value.int .u8 0) := by simp [byts]

theorem run_app_zeros {P : Program} (w : World) (base : Nat) (t tn ty e : TypeId) (i : TypeInfo) (kn : IntKind) (ht : P.underlying t = some (.slice e)) (htn : P.underlying tn = some (.int kn)) (hi : P.info? e = some i)
    (hz : i.zero = some (.int .u8 0)) (hsize : i.size = 1) (hby : i.bytes = 1)
    (v : Value) (k : Nat) (xs : List Value) (hown : w.ownsRow base e 1 v k xs) (n : Nat) (h63 : k + n ≤ 100000000) (hbase : base ≤ w.heap.size) :
    ∃ v' w', (Builtin.append_ #[t, tn] ty #[v, .int .i64 n]).run P w = .ok v' w' ∧ w'.ownsRow base e 1 v' (k + n) (xs ++ List.replicate n (.int .u8 0)) ∧ w.grownBy w' v.ownBlock := by
  have hw : IntKind.i64.wrap (n : Int) = n := by rw [IntKind.wrap_i64]; omega
  have hneg : ¬ ((n : Int) < 0) := by omega
  have h48i : ¬ (281474976710656 < (n : Int)) := by omega
  have hlen : (xs ++ List.replicate n (Value.int .u8 0)).length = (k + n) * 1 := by rw [List.length_append, hown.1, List.length_replicate]; omega
  have grown : ∀ (old : Nat), old < k + n → ∀ (row : Option Nat),
      (w.drew.alloc (.cells (xs.toArray ++ Builtin.zeroCells (Value.int .u8 0).cells n ++ Builtin.zeroCells (Value.int .u8 0).cells (grownCap w (k + n) old e - (k + n))) e)).ownsRow base e 1
        (.slice (some ⟨w.heap.size, 0, none⟩) (k + n) (grownCap w (k + n) old e)) (k + n) (xs ++ List.replicate n (.int .u8 0)) ∧
      w.grownBy (w.drew.alloc (.cells (xs.toArray ++ Builtin.zeroCells (Value.int .u8 0).cells n ++ Builtin.zeroCells (Value.int .u8 0).cells (grownCap w (k + n) old e - (k + n))) e)) row := by
    intro old ho row
    have hge := grownCap_ge w (k + n) old e
    have hcm : grownCap w (k + n) old e ≤ maxLen := grownCap_le_maxLen w (k + n) old e (by unfold maxLen; omega)
    have hx : xs.length = k := by have := hown.1; omega
    refine ⟨⟨hlen, .inr ⟨w.heap.size, _, _, rfl, hbase, heap_alloc_new w.drew _, hge, hcm, ?_, ?_⟩⟩, ⟨rfl, rfl, rfl, by simp, fun j hj _ => heap_alloc_old w.drew _ hj⟩⟩
    · simp only [Array.size_append, List.size_toArray, size_zeroCells, hx, Value.cells]
      simp
      omega
    · rw [zeroCells_u8]
      simp only [Array.toList_append, List.append_assoc]
      rw [← List.append_assoc, ← hlen]
      exact List.take_left
  rcases hown.2 with ⟨rfl, rfl⟩ | ⟨g, cap, cur, rfl, hbg, hg, hnc, hcm, hcs, htake⟩
  · have hx : xs = [] := List.eq_nil_of_length_eq_zero (by simpa using hown.1)
    subst hx
    by_cases hm : n = 0
    · subst hm
      refine ⟨.slice none 0 0, w, ?_, World.ownsRow_nil w base e 1, ⟨rfl, rfl, rfl, Nat.le_refl _, fun _ _ _ => rfl⟩⟩
      simp [Builtin.append_, run_underlying ht, run_underlying htn, sizeOf, typeInfo, hi, asInt, asIntOf, IntKind.wrap_i64]
    · have hr := Lib.run_append_nil_zeros (P := P) w t tn ty e i (.int .u8 0) .i64 kn ht htn hi hz n (by omega) (by omega) (by omega) (by rw [hby]; omega)
      have hgr := grown 0 (by omega) (Value.ownBlock (.slice none 0 0))
      simp only [Nat.zero_add, List.nil_append, Array.empty_append] at hgr ⊢
      exact ⟨_, _, hr, hgr.1, hgr.2⟩
  · by_cases hroom : k + n ≤ cap
    · have hst := run_storeCells_at P g k e (List.replicate n (Value.int .u8 0)) 0 cur w hg (by simp; omega) (by intro u hu; rw [List.eq_of_mem_replicate hu]; rfl)
      simp only [Nat.add_zero] at hst
      have hrun : (Builtin.append_ #[t, tn] ty #[.slice (some ⟨g, 0, none⟩) k cap, .int .i64 n]).run P w = .ok (.slice (some ⟨g, 0, none⟩) (k + n) cap) (w.setRow g (cur.toList.take k ++ List.replicate n (Value.int .u8 0) ++ cur.toList.drop (k + n)).toArray) := by
        by_cases hm : n = 0
        · subst hm
          simp only [List.replicate_zero] at hst ⊢
          simp [Builtin.append_, run_underlying ht, run_underlying htn, sizeOf, typeInfo, hi, hsize, hby, asInt, asIntOf, IntKind.wrap_i64, hnc, Addr.add_lit, hst]
        · simp [Builtin.append_, run_underlying ht, run_underlying htn, sizeOf, typeInfo, zeroValue, hi, hz, hsize, hby, asInt, asIntOf, hw, hneg, h48i, hm, hroom, Addr.add_lit, zeroCells_u8, hst]
      refine ⟨_, _, hrun, ⟨hlen, .inr ⟨g, cap, _, rfl, hbg, setRow_heap w g cur _ e _ hg, hroom, hcm, ?_, ?_⟩⟩, ⟨rfl, rfl, rfl, by simp, fun j _ hj => setRow_other w g j _ (fun e => hj (by simp [Value.ownBlock, e]))⟩⟩
      · simp
        omega
      · rw [← hlen, show cur.toList.take k = xs from by rw [← htake, Nat.mul_one]]
        exact List.take_left
    · have hfo := run_firstCells_some (P := P) w.drew i.size k ⟨g, 0, none⟩ k cap xs (by rw [hsize]; exact hown.1) (by simpa using hown.cells (g := g) rfl)
      have hm : n ≠ 0 := by omega
      have hfit := growslice_fits (need := k + n) (old := cap) (bytes := 1) (by omega) (by omega)
      have h48' : ¬ (281474976710656 < Builtin.nextslicecap (k + n) cap) := by omega
      have h63' : ¬ (9223372036854775807 < ((k : Int) + (n : Int))) := by omega
      have hgr := grown cap (by omega) (Value.ownBlock (.slice (some ⟨g, 0, none⟩) k cap))
      refine ⟨_, _, ?_, hgr.1, hgr.2⟩
      simp only [hsize] at hfo
      simp [Builtin.append_, run_underlying ht, run_underlying htn, sizeOf, typeInfo, zeroValue, hi, hz, hsize, hby, asInt, asIntOf, hw, hneg, h48i, hm, hroom, h63', h48', Question.forced, hfo, newRow, grownCap]

theorem app_zeros {ops : Array Oper} {rest : List Oper} {o : Oper} {a : Act} {Q : Exit → Act → World → Prop} (hgd : o.guard = none) (s x : Operand)
    (ho : o.op = .call { callee := .builtin .append, args := #[s, x], argTypes := #[32, 3] }) {w0 w : World} (hf : Fr0 w0 w) {v1 : Value} {L1 : List UInt8} {k1 n : Nat}
    (h1 : w.ownsRow w0.heap.size 5 1 v1 k1 (byts L1)) (hs : a.eval s = v1) (hx : a.eval x = .int .i64 n) (hl : k1 + n ≤ 100000000)
    (h : ∀ A c w', w'.ownsRow w0.heap.size 5 1 (.slice A (k1 + n) c) (k1 + n) (byts (L1 ++ List.replicate n 0)) → Fr0 w0 w' → wpList Try.prog ops Q rest (a.put o.dst (.slice A (k1 + n) c)) w') :
    wpList Try.prog ops Q (o :: rest) a w := by
  obtain ⟨i0, hi, hz0, hz1, hz2⟩ := info_parts infoU8
  obtain ⟨v', w', hr, hown, hgrow⟩ := run_app_zeros (P := Try.prog) w w0.heap.size 32 3 o.type 5 i0 .i64 Try.underlying32 Try.underlying3 hi hz0 hz1 hz2 v1 k1 (byts L1) h1 n hl hf.size
  refine Lib.wpList_append_run _ hgd s x _ _ ho _ _ hs hx _ _ hr ?_
  rw [← byts_zeros, ← byts_app] at hown
  obtain ⟨A, c, rfl, -, -, -⟩ := own_form hown
  exact h A c w' hown (Fr.grown hf hgrow (fun j hj => .inr (own_lt' h1 j hj).1))
end Go.Proofs.Ytgcjbbliaelkcaa
namespace Go.Proofs.Ytgcjbbliaelkcaa
open Go.RowKit
variable {P : Program} {ops : Array Oper} {o : Oper} {a : Act} {w : World} {K : Act → World → Prop} {Q : Exit → Act → World → Prop} {rest : List Oper}
theorem wp_built_blk (t e : TypeId) (n : Nat) (parts : Array (Nat × Operand)) (ho : o.op = .buildSlice t n parts) (cells : Array Value)
    (hrun : ∀ W : World, (Instr.buildSlice t n (parts.map fun (i, x) => (i, a.eval x))).run P W = .ok (.slice (some ⟨W.heap.size, 0, none⟩) n n) (W.alloc (.cells cells e)))
    (h : ∀ g W1, Blk W1 g cells e → Fr0 w W1 → w.heap.size ≤ g → K (a.put o.dst (.slice (some ⟨g, 0, none⟩) n n)) W1) : Oper.wp P o a w K Q := by
  unfold Oper.wp execOp
  simp only [ho, Sem.run_bind, Sem.run_pure, Result.andThen_ok, hrun]
  exact h _ _ (Blk.new w cells e) ((Fr0.refl w).alloc _) (Nat.le_refl _)
theorem list_built_blk (hgd : o.guard = none) (t e : TypeId) (n : Nat) (parts : Array (Nat × Operand)) (ho : o.op = .buildSlice t n parts) (cells : Array Value)
    (hrun : ∀ W : World, (Instr.buildSlice t n (parts.map fun (i, x) => (i, a.eval x))).run P W = .ok (.slice (some ⟨W.heap.size, 0, none⟩) n n) (W.alloc (.cells cells e)))
    (h : ∀ g W1, Blk W1 g cells e → Fr0 w W1 → w.heap.size ≤ g → wpList P ops Q rest (a.put o.dst (.slice (some ⟨g, 0, none⟩) n n)) W1) : wpList P ops Q (o :: rest) a w :=
  wpList_plain hgd fun _ hK => wp_built_blk t e n parts ho cells hrun (fun g W1 h1 h2 h3 => hK _ _ (h g W1 h1 h2 h3))
theorem infoB2 : (Try.prog.info? 5).map (fun i => (i.zero, i.size, i.bytes)) = some (some (.int .u8 0), 1, 1) := by kernel_rfl
/-- The block of a row of the call's own. -/
def ownB (v : Value) (k : Nat) : Prop := v.ownBlock = some k
/-- append of bytes onto a row of the call's own. -/
theorem wp_append_own {base : Nat} {v v2 : Value} {n : Nat} {d e : List UInt8} (s x : Operand) (ho : o.op = .call { callee := .builtin .append, args := #[s, x], argTypes := #[32, 32] })
    (hb : base ≤ w.heap.size) (hown : w.ownsRow base 5 1 v n (byts d)) (hs : a.eval s = v) (hr : RdB w v2 e) (hx : a.eval x = v2) (hl : n + e.length ≤ 100000000)
    (hK : ∀ A c w', w'.ownsRow base 5 1 (.slice A (n + e.length) c) (n + e.length) (byts (d ++ e)) → Fr (ownB v) w w' → K (a.put o.dst (.slice A (n + e.length) c)) w') :
    Oper.wp Try.prog o a w K Q := by
  obtain ⟨i, hi, hz0, hz1, hz2⟩ := info_parts infoB2
  obtain ⟨A2, c2, rfl, hnc, hcm, hnone⟩ := hr.form
  have hrun : ∃ A c w', (Builtin.append_ #[32, 32] o.type #[v, .slice A2 e.length c2]).run Try.prog w = .ok (.slice A (n + e.length) c) w' ∧ w'.ownsRow base 5 1 (.slice A (n + e.length) c) (n + e.length) (byts d ++ byts e) ∧ Fr (ownB v) w w' := by
    cases A2 with
    | some ad =>
      obtain ⟨v', w', hrun, hown', hgrow, -⟩ := run_append_own (P := Try.prog) w base 32 o.type 5 i _ 1 1 Try.underlying32 hi hz0 hz1 hz2 rfl (by decide) v n (byts d) hown ad e.length c2 (byts e) (byts_len e) (fun j u hu => Rd.news hr j u hu) (byts_one e) (by unfold maxLen; omega) (by omega) hb
      obtain ⟨A', c', rfl, -, -, -⟩ := own_form hown'
      exact ⟨A', c', w', hrun, hown', Fr.grown (Fr.refl _ _) hgrow (fun j hj => .inl hj)⟩
    | none =>
      have hc : c2 = 0 := hnone rfl
      have hm : e = [] := List.eq_nil_of_length_eq_zero (by omega)
      subst hc hm
      have hrun := run_append_none (P := Try.prog) w base 32 32 o.type 5 5 i Try.underlying32 Try.underlying32 hi v n (byts d) (by rw [hz1]; exact hown) 0
      obtain ⟨A', c', rfl, -, -, -⟩ := own_form hown
      exact ⟨A', c', w, hrun, by simpa [byts] using hown, Fr.refl _ _⟩
  obtain ⟨A, c, w', hrun, hown', hf⟩ := hrun
  unfold Oper.wp execOp
  simp only [ho, resolve, invoke, builtin, Sem.run_bind, Sem.run_pure, Result.andThen_ok, List.map_toArray, List.map_cons, List.map_nil, hs, hx, hrun]
  refine hK A c w' ?_ hf
  rw [byts_app]
  exact hown'
/-- append of so many noughts. -/
theorem wp_append_zeros {base : Nat} {v : Value} {n m : Nat} {d : List UInt8} (s x : Operand) (ho : o.op = .call { callee := .builtin .append, args := #[s, x], argTypes := #[32, 3] })
    (hb : base ≤ w.heap.size) (hown : w.ownsRow base 5 1 v n (byts d)) (hs : a.eval s = v) (hx : a.eval x = .int .i64 m) (hl : n + m ≤ 100000000)
    (hK : ∀ A c w', w'.ownsRow base 5 1 (.slice A (n + m) c) (n + m) (byts (d ++ List.replicate m 0)) → Fr (ownB v) w w' → K (a.put o.dst (.slice A (n + m) c)) w') :
    Oper.wp Try.prog o a w K Q := by
  obtain ⟨i, hi, hz0, hz1, hz2⟩ := info_parts infoB2
  obtain ⟨v', w', hrun, hown', hgrow⟩ := run_app_zeros (P := Try.prog) w base 32 3 o.type 5 i .i64 Try.underlying32 Try.underlying3 hi hz0 hz1 hz2 v n (byts d) hown m hl hb
  obtain ⟨A, c, rfl, -⟩ := own_form hown'
  unfold Oper.wp execOp
  simp only [ho, resolve, invoke, builtin, Sem.run_bind, Sem.run_pure, Result.andThen_ok, List.map_toArray, List.map_cons, List.map_nil, hs, hx, hrun]
  refine hK A c w' ?_ (Fr.grown (Fr.refl _ _) hgrow (fun j hj => .inl hj))
  rw [byts_app, byts_zeros]
  exact hown'
end Go.Proofs.Ytgcjbbliaelkcaa
namespace Go.Proofs.Ytgcjbbliaelkcaa
open Go.RowKit
theorem SlO.low {b0 b1 : Nat} {w : World} {v : Value} {d : List UInt8} (h : SlO b1 w v d) (hb : b0 ≤ b1) : SlO b0 w v d := by
  rcases h with h | ⟨g, off, c, cur, hv, hg, rest⟩
  · exact .inl h
  · exact .inr ⟨g, off, c, cur, hv, by omega, rest⟩
theorem SlO.put {base n c : Nat} {w : World} {A : Option Addr} {d : List UInt8} (h : SlO base w (.slice A n c) d) {j : Nat} (hj : j < d.length) :
    ∃ g off u, A = some ⟨g, off, none⟩ ∧ j < c ∧ w.cell? ⟨g, off + j, none⟩ = some u ∧ w.frozen? ⟨g, off + j, none⟩ = false ∧ ∀ b : UInt8, SlO base (w.setCell ⟨g, off + j, none⟩ (.int .u8 b.toNat)) (.slice A n c) (d.set j b) ∧ Fr (inBlk (.slice A n c)) w (w.setCell ⟨g, off + j, none⟩ (.int .u8 b.toNat)) := by
  rcases h with ⟨_, rfl⟩ | ⟨g, off, c', cur, hv, hb, hg, h1, h2, h3, h4⟩
  · simp at hj
  · injection hv with hA hn hc
    subst hA hc
    subst hn
    have hs : off + j < cur.size := by omega
    refine ⟨g, off, cur[off + j], rfl, by omega, hg.cell _ (Array.getElem?_eq_getElem hs), hg.free _, fun b => ⟨.inr ⟨g, off, c, _, by rw [List.length_set], hb, hg.set (off + j) _, by simpa using h1, by simpa using h2, h3, fun i u hu => ?_⟩, Fr.mono ((Fr1.refl g w).set (off + j) _) (fun k hk => by rw [hk]; rfl)⟩⟩
    rw [byts, List.getElem?_map, List.getElem?_set] at hu
    by_cases hij : j = i
    · subst hij
      rw [if_pos rfl, if_pos hj] at hu
      rw [Array.getElem?_setIfInBounds, if_pos rfl, if_pos hs]
      exact hu
    · rw [if_neg hij] at hu
      rw [Array.getElem?_setIfInBounds, if_neg (by omega)]
      exact h4 i u (by rw [byts, List.getElem?_map]; exact hu)
theorem SlO.new0 {base : Nat} {w : World} (hb : base ≤ w.heap.size) : SlO base (w.alloc (.cells #[] 5)) (.slice (some ⟨w.heap.size, 0, none⟩) 0 0) [] :=
  .inr ⟨w.heap.size, 0, 0, #[], rfl, hb, Blk.new w #[] 5, by simp, Nat.le_refl _, by unfold maxLen; omega, fun j u hu => by cases hu⟩
theorem SlO.thenFr {w w1 w2 : World} {v : Value} {d : List UInt8} (s : SlO w.heap.size w1 v d) (h : Fr0 w w1) (k : Fr (inBlk v) w1 w2) : Fr0 w w2 := Fr.then h k (fun i hi hlt => absurd (s.lo i hi).1 (by omega))
end Go.Proofs.Ytgcjbbliaelkcaa
namespace Go.Proofs.Ytgcjbbliaelkcaa
theorem rd64 {w : World} {g : Nat} {d : List UInt8} {t : TypeId} (h : Blk w g (byts d).toArray t) {n : Nat} (hn : d.length = n) (hm : n ≤ 1000) : RdB w (.slice (some ⟨g, 0, none⟩) n n) d := by
  have h1 := arr_rd h (o := 0) (k := n) (c := n) (by omega) (Nat.le_refl _) (by unfold maxLen; omega)
  rw [List.drop_zero, List.take_of_length_le (Nat.le_of_eq hn)] at h1
  exact h1
end Go.Proofs.Ytgcjbbliaelkcaa
set_option linter.unusedSimpArgs false
set_option linter.unusedVariables false
namespace Go.Proofs.Ytgcjbbliaelkcaa
open Go.RowKit

theorem Fr.cell {S : Nat → Prop} {w w' : World} {p : Addr} {v : Value} (h : Fr S w w') (hs : ¬ S p.block) (hc : w.cell? p = some v) : w'.cell? p = some v :=
  (World.cell?_of_block (h.block p.block (World.block_lt_of_cell? w p hc) hs)).trans hc
/-- A stream's byte. -/
def strB (key : List UInt8) (n i : Nat) : UInt8 := (blkL key n (i / 16)).getD (i % 16) 0
/-- A text turned. -/
def tnL (key : List UInt8) (n : Nat) (text : List UInt8) : List UInt8 := (List.range text.length).map fun i => text.getD i 0 ^^^ strB key n i
theorem tnL_len (key : List UInt8) (n : Nat) (text : List UInt8) : (tnL key n text).length = text.length := by simp [tnL]
theorem tnL_at (key : List UInt8) (n : Nat) (text : List UInt8) {i : Nat} (h : i < text.length) : (tnL key n text).getD i 0 = text.getD i 0 ^^^ strB key n i := by simp [tnL, List.getD, h]
theorem take_more {T : List UInt8} {i : Nat} (h : i < T.length) : T.take (i + 1) = T.take i ++ [T.getD i 0] := by
  rw [List.take_add_one, show T[i]? = some (T.getD i 0) from by simp [List.getD, h]]; rfl
end Go.Proofs.Ytgcjbbliaelkcaa
namespace Go.Proofs.Ytgcjbbliaelkcaa
open Go.RowKit

/-- A key that is a block or less. -/
def keyN (key : List UInt8) : List UInt8 := if key.length ≤ 64 then key else shaN key
def padK (key : List UInt8) : List UInt8 := keyN key ++ List.replicate (64 - (keyN key).length) 0
def blockN (key : List UInt8) (x : UInt8) : List UInt8 := (padK key).map (· ^^^ x)
/-- The mark of a text under a key. -/
def macN (key text : List UInt8) : List UInt8 := shaN (blockN key 92 ++ shaN (blockN key 54 ++ text))
theorem shaN_len (b : List UInt8) : (shaN b).length = 32 := outB_len _
theorem keyN_le (key : List UInt8) : (keyN key).length ≤ 64 := by
  unfold keyN
  split
  · assumption
  · rw [shaN_len]; decide
theorem padK_len (key : List UInt8) : (padK key).length = 64 := by
  have := keyN_le key
  unfold padK
  rw [List.length_append, List.length_replicate]
  omega
theorem blockN_len (key : List UInt8) (x : UInt8) : (blockN key x).length = 64 := by unfold blockN; rw [List.length_map, padK_len]
theorem macN_len (key text : List UInt8) : (macN key text).length = 32 := shaN_len _
theorem keyN_small {key : List UInt8} (h : key.length ≤ 64) : keyN key = key := if_pos h
theorem keyN_great {key : List UInt8} (h : 64 < key.length) : keyN key = shaN key := if_neg (by omega)
theorem blockN_at (key : List UInt8) (x : UInt8) (i : Nat) (h : i < 64) : (blockN key x).getD i 0 = (padK key).getD i 0 ^^^ x := by
  have hl := padK_len key
  unfold blockN
  simp [List.getD, hl, h]
theorem xor_u8 (x y : UInt8) : bits .xor .u8 (x.toNat : Int) (y.toNat : Int) = ((x ^^^ y).toNat : Int) := by
  have hx := x.toNat_lt
  have hy := y.toNat_lt
  rw [UInt8.toNat_xor]
  exact u8_xor_nat x.toNat y.toNat hx hy
theorem take_set_xor {l m : List UInt8} {n i : Nat} (hl : l.length = n) (hm : m.length = n) (hi : i < n) : (byts (m.take i ++ l.drop i)).toArray[i]? = some (.int .u8 ((l.getD i 0).toNat : Int)) := by
  rw [List.getElem?_toArray, byts, List.getElem?_map, List.getElem?_append_right (by rw [List.length_take]; omega), List.length_take, List.getElem?_drop, show i + (i - min i m.length) = i by omega]
  simp [List.getD, hl, hi]
end Go.Proofs.Ytgcjbbliaelkcaa
namespace Go.Proofs.Ytgcjbbliaelkcaa
open Go.RowKit

/-- What the tag is of. -/
def headL (code : List UInt8) (wd : Nat) (text : List UInt8) : List UInt8 := fixForm wd 8 ++ tnL code wd text
def tagL (mark hd : List UInt8) : List UInt8 := (macN mark hd).take 16
def packL (code mark : List UInt8) (wd : Nat) (text : List UInt8) : List UInt8 := headL code wd text ++ tagL mark (headL code wd text)
theorem headL_len (code : List UInt8) (wd : Nat) (text : List UInt8) : (headL code wd text).length = 8 + text.length := by unfold headL; rw [List.length_append, fixForm_len, tnL_len]
theorem tagL_len (mark hd : List UInt8) : (tagL mark hd).length = 16 := by unfold tagL; rw [List.length_take, macN_len]; rfl
theorem packL_len (code mark : List UInt8) (wd : Nat) (text : List UInt8) : (packL code mark wd text).length = text.length + 24 := by unfold packL; rw [List.length_append, headL_len, tagL_len]; omega
theorem packL_eq (code mark : List UInt8) (wd : Nat) (text : List UInt8) : packL code mark wd text = (fixForm wd 8 ++ tnL code wd text) ++ (macN mark (fixForm wd 8 ++ tnL code wd text)).take 16 := rfl
/-- A text turned twice is the text. -/
theorem tnL_tnL (code : List UInt8) (wd : Nat) (text : List UInt8) : tnL code wd (tnL code wd text) = text := by
  refine List.ext_getElem? fun i => ?_
  by_cases h : i < text.length
  · have h1 := tnL_at code wd (tnL code wd text) (i := i) (by rw [tnL_len]; exact h)
    rw [tnL_at code wd text h] at h1
    have h2 : text.getD i 0 ^^^ strB code wd i ^^^ strB code wd i = text.getD i 0 := by rw [UInt8.xor_assoc, UInt8.xor_self, UInt8.xor_zero]
    rw [h2] at h1
    have e1 : (tnL code wd (tnL code wd text))[i]? = some ((tnL code wd (tnL code wd text)).getD i 0) := by
      have : i < (tnL code wd (tnL code wd text)).length := by rw [tnL_len, tnL_len]; exact h
      simp [List.getD, this]
    have e2 : text[i]? = some (text.getD i 0) := by simp [List.getD, h]
    rw [e1, e2, h1]
  · rw [List.getElem?_eq_none (by rw [tnL_len, tnL_len]; omega), List.getElem?_eq_none (by omega)]
end Go.Proofs.Ytgcjbbliaelkcaa
set_option linter.unusedSimpArgs false
set_option linter.unusedVariables false
namespace Go.Proofs.Ytgcjbbliaelkcaa
open Go.RowKit

def plainOp (o : Oper) : Bool := match o.op with | .defer _ => false | _ => true
theorem plainOp.out {o : Oper} (h : plainOp o = true) : ∀ c, o.op ≠ .defer c := by
  intro c e; simp [plainOp, e] at h
section
variable {l n : Nat} {P : Program} {Q : Exit → Act → World → Prop} {a : Act} {w : World} {md : Region.Mode} {ops : Array Oper}
theorem rows_wideR {row : String} {args : Array Value} {R : Value → World → Prop} (h : Rows P row args w R) : RowsIn (Fence.wide.inRound l) n P row args w R := by
  intro c cs _
  obtain ⟨v, w', hr, hs⟩ := h c cs
  exact ⟨v, w', hr, (stepsIn_wide (P := P)).2 hs⟩
theorem oper_round {o : Oper} {K : Act → World → Prop} (hd : plainOp o = true) (h : o.wp P a w K Q) : o.wpIn (Fence.wide.inRound l) n P a w K Q := by
  refine ⟨fun _ _ => trivial, ?_⟩
  rw [show (Fence.wide.inRound l).round = some l from rfl, Oper.semAt_some l _ _ (plainOp.out hd)]
  unfold Oper.wp at h
  generalize (execOp a.eval o).run P w = r at *
  cases r with
  | ok x w' =>
    cases x <;> simp only [Oper.upon] at h <;> simp only [Oper.uponIn] <;>
      first
        | exact h
        | exact h.elim
        | exact ⟨fun hh => (by cases hh), (callsIn_wide (n := n - 1)).2 h⟩
        | exact ⟨fun hh => (by cases hh), rows_wideR h⟩
  | halt x w' => cases x <;> simp only [Oper.upon] at h <;> simp only [Oper.uponIn] <;> first | exact h | exact h.elim
theorem oper_round_or {o : Oper} {K : Act → World → Prop} (hQ : ∀ a w, Q .outgrown a w → False) (hd : plainOp o = true) (h : o.wp P a w K Q ∨ (o.asks P a w ∧ LetsOut Q)) : o.wpIn (Fence.wide.inRound l) n P a w K Q := by
  rcases h with h | ⟨-, x, y, h⟩
  · exact oper_round hd h
  · exact (hQ _ _ h).elim
theorem op_round (hQ : ∀ a w, Q .outgrown a w → False) (hd : ops.all plainOp = true) {i : Nat} {K : Act → World → Prop} (h : wpOp P ops Q i K a w) : wpOpIn (Fence.wide.inRound l) n P ops Q i K a w := by
  unfold wpOp at h
  unfold wpOpIn
  cases ho : ops[i]? with
  | none => simp only [ho] at h ⊢; exact h
  | some o =>
    simp only [ho] at h ⊢
    have hp : plainOp o = true := by
      obtain ⟨hlt, he⟩ := Array.getElem?_eq_some_iff.1 ho
      have := (Array.all_eq_true.1 hd) i hlt
      rwa [he] at this
    split
    · rename_i hw; simp only [hw, if_true] at h; exact oper_round_or hQ hp h
    · rename_i hw; simp only [hw] at h; exact ⟨fun _ _ => trivial, h⟩
theorem any_round (hQ : ∀ a w, Q .outgrown a w → False) (hd : ops.all plainOp = true) : ∀ (fuel : Nat) (listed : Array Bool) (a : Act) (w : World), wpAny P md ops Q fuel listed a w → wpAnyIn (Fence.wide.inRound l) n P md ops Q fuel listed a w
  | 0, _, _, _, h => h
  | fuel + 1, listed, a, w, h => ⟨h.1, fun i hi => wpOpIn_mono (fun a w h' => any_round hQ hd fuel _ a w h') (op_round hQ hd (h.2 i hi))⟩
theorem list_round (hQ : ∀ a w, Q .outgrown a w → False) : ∀ (rest : List Oper) (a : Act) (w : World), rest.all plainOp = true → wpList P ops Q rest a w → wpListIn (Fence.wide.inRound l) n P ops Q rest a w
  | [], _, _, _, h => h
  | o :: rest, a, w, hd, h => by
    simp only [List.all_cons, Bool.and_eq_true] at hd
    unfold wpList at h
    unfold wpListIn
    split
    · rename_i hw
      simp only [hw, if_true] at h
      exact Oper.wpIn_mono (fun a w h' => list_round hQ rest a w hd.2 h') (oper_round_or hQ hd.1 h)
    · rename_i hw
      simp only [hw] at h
      exact ⟨fun _ _ => trivial, list_round hQ rest _ w hd.2 h⟩
/-- A region that draws no order. -/
theorem wpInR_region {id : Nat} {L : List Oper} (hQ : ∀ a w, Q .outgrown a w → False) (hd : L.all plainOp = true) (h : wpList P L.toArray Q L a w) : (Code.region id L.toArray false).wpIn (Fence.wide.inRound l) n P Q a w :=
  wpIn_region_lit (list_round hQ L a w hd h)
/-- A region that draws its order: reads, then what writes. -/
theorem wpInR_still_tail {id : Nat} {L : List Oper} (k : Nat) (hm : P.follows .mixedOrders = true) (hB : Region.lexTailB .any L.toArray k = true) (hd : L.toArray.all plainOp = true) (hQ : ∀ a w, Q .outgrown a w → False)
    (h : wpStill P L.toArray { w with drawn := w.drawn + 1 } (fun a' => wpList P L.toArray Q (L.drop k) a' { w with drawn := w.drawn + 1 }) (L.take k) a) : (Code.region id L.toArray true).wpIn (Fence.wide.inRound l) n P Q a w := by
  simp only [Region.lexTailB, Bool.and_eq_true, decide_eq_true_eq] at hB
  obtain ⟨⟨⟨⟨hsel, hn⟩, hs⟩, hc⟩, hlex⟩ := hB
  have hn' : k < L.length := by simpa using hn
  have htl : (L.take k).length = k := by simp; omega
  have hdl : (L.drop k).length = L.toArray.size - k := by simp
  have inv0 : HeadInv .any L.toArray k (Array.replicate L.toArray.size false) :=
    ⟨by simp, fun j oj _ hl => (by rw [getD_replicate_false] at hl; cases hl), fun t _ ht => getD_in (by simpa using ht) (getD_replicate_false _ _)⟩
  have H := wpAnyL_lex (md := .any) (g := L.toArray.size - k) hsel hs hc hn (L.take k) 0 _ a (fun j hj => by
    have hj' : j < k := by rw [htl] at hj; exact hj
    simp [hj']) (by simpa using htl) inv0 (by rw [htl]; exact hlex) h
  refine wpIn_region_any hm (any_round hQ hd _ _ _ _ ?_)
  have := wpAny_of_head (Q' := Q) (g := L.toArray.size - k) (fun listed a' hL => by
    have := wpAny_of_seq (md := .any) (Q' := Q) (L.drop k) k listed a' { w with drawn := w.drawn + 1 } (fun j => by simp [List.getElem?_drop]) (by rw [hdl]; exact hL.1) hL.2
    rwa [hdl] at this) _ _ _ H
  rw [htl, show k + (L.toArray.size - k) = L.toArray.size by omega] at this
  exact this
end
end Go.Proofs.Ytgcjbbliaelkcaa
set_option linter.unusedSimpArgs false
set_option linter.unusedVariables false
namespace Go.Proofs.Ytgcjbbliaelkcaa
open Go.RowKit

theorem Fr0.grownBy {w w' : World} (h : Fr0 w w') : w.grownBy w' none := ⟨h.os, h.tape, h.output, h.size, fun k hk _ => h.block k hk (fun h => h)⟩
theorem abides_fr0 {β : Type} {B : Nat} {J : β → World → Prop} (h : AbidesFrom B J) {s : β} {w w' : World} (hs : J s w) (hf : Fr0 w w') : J s w' := h s w w' none hs hf.grownBy (fun r e => by cases e)

set_option maxHeartbeats 1000000 in
theorem walk_any {gn gk : Nat} {i : Int} {m : Int} (w : World) :
    Calls Try.prog 64 #[.func (.func 65) #[] #[.pointer (some ⟨gn, 0, none⟩), .pointer (some ⟨gk, 0, none⟩)], .int .i64 i, .int .i64 m] w fun e w' => ∃ g0 g1 g2, e = .returned (.func (.func 72) #[] #[.pointer (some ⟨g2, 0, none⟩), .pointer (some ⟨g1, 0, none⟩), .pointer (some ⟨g0, 0, none⟩)]) ∧
      Blk w' g0 #[.func (.func 65) #[] #[.pointer (some ⟨gn, 0, none⟩), .pointer (some ⟨gk, 0, none⟩)]] 114 ∧ Blk w' g1 #[.int .i64 i] 3 ∧ Blk w' g2 #[.int .i64 m] 3 ∧ w.heap.size ≤ g0 ∧ w.heap.size ≤ g1 ∧ w.heap.size ≤ g2 ∧ Fr0 w w' := by
  go_enter Try.func64, Try.ntmps64
  go_wp2_with fail
  go_ret
  have b0 := Blk.new w #[.func (.func 65) #[] #[.pointer (some ⟨gn, 0, none⟩), .pointer (some ⟨gk, 0, none⟩)]] 114
  have b1 := Blk.new (w.alloc (.cells #[.func (.func 65) #[] #[.pointer (some ⟨gn, 0, none⟩), .pointer (some ⟨gk, 0, none⟩)]] 114)) #[.int .i64 i] 3
  have b2 := Blk.new ((w.alloc (.cells #[.func (.func 65) #[] #[.pointer (some ⟨gn, 0, none⟩), .pointer (some ⟨gk, 0, none⟩)]] 114)).alloc (.cells #[.int .i64 i] 3)) #[.int .i64 m] 3
  simp only [World.size_alloc] at b1 b2
  exact ⟨_, _, _, rfl, (b0.alloc _).alloc _, b1.alloc _, b2, Nat.le_refl _, by omega, by omega, (((Fr0.refl w).alloc _).alloc _).alloc _⟩
set_option maxHeartbeats 4000000 in
set_option maxRecDepth 100000 in
theorem walk1_in {key : List UInt8} {n many g0 g1 g2 gn gk d : Nat} {S : Nat → Prop} (hk : key.length = 16) (hn : n < 18446744073709551616) (h0m : 0 < many) (hm : many < 1000000) (l : Nat) (J Jx : List Nat → World → Prop) (B : Nat)
    (hJ : AbidesFrom B J)
    (hS : ¬ S g0 ∧ ¬ S g1 ∧ ¬ S g2 ∧ ¬ S gn ∧ ¬ S gk)
    (hY : ∀ pre (x : Nat) W, J pre W → pre.length < many → YieldAt Fence.wide (d - 1) Try.prog l #[.int .i64 (x : Int), .agg (byts (blkL key n x)).toArray] W fun e W' =>
      (e = .returned (.bool true) ∧ J (pre ++ [x]) W' ∧ Fr S W W') ∨ (e = .returned (.bool false) ∧ Jx (pre ++ [x]) W'))
    (w : World) (h0 : Blk w g0 #[.func (.func 65) #[] #[.pointer (some ⟨gn, 0, none⟩), .pointer (some ⟨gk, 0, none⟩)]] 114) (h1 : Blk w g1 #[.int .i64 0] 3) (h2 : Blk w g2 #[.int .i64 (many : Int)] 3)
    (hbn : Blk w gn #[.int .u64 (n : Int)] 31) (hbk : Blk w gk (byts key).toArray 22) (hJ0 : J [] w) :
    CallsIn Fence.wide d Try.prog 72 #[.func (.yield l) #[] #[], .pointer (some ⟨g2, 0, none⟩), .pointer (some ⟨g1, 0, none⟩), .pointer (some ⟨g0, 0, none⟩)] w fun e w' => (∃ v, e = .returned v) ∧
      ((∃ xs, xs = List.range many ∧ J xs w') ∨ (∃ pre, True ∧ Jx pre w')) := by
  have HB := Lib.hid (fun (i : Nat) (hi : i < 4611686018427387904) W (hbn : Blk W gn #[.int .u64 (n : Int)] 31) (hbk : Blk W gk (byts key).toArray 22) => pblock_any hk hn hi hbn hbk)
  have HYY := Lib.hid (fun pre (x : Nat) W hj hl => show YieldAt Fence.wide (d - 1) Try.prog l #[.int .i64 (x : Int), .agg (byts (blkL key n x)).toArray] W (fun e W' => ∃ b : Bool, e = .returned (.bool b) ∧ ((b = true ∧ J (pre ++ [x]) W' ∧ Fr S W W') ∨ (b = false ∧ Jx (pre ++ [x]) W'))) by
    obtain ⟨fn, tmps, assign, body, hy, hR⟩ := hY pre x W hj hl
    refine ⟨fn, tmps, assign, body, hy, hR.mono ?_⟩
    rintro e W3 (⟨rfl, hJ3, hk3⟩ | ⟨rfl, hJx3⟩)
    · exact ⟨true, rfl, .inl ⟨rfl, hJ3, hk3⟩⟩
    · exact ⟨false, rfl, .inr ⟨rfl, hJx3⟩⟩)
  have HJJ := Lib.hid (fun s w w' => abides_fr0 hJ (s := s) (w := w) (w' := w'))
  obtain ⟨ck, hck⟩ : ∃ c, c = (byts key).toArray := ⟨_, rfl⟩
  rw [← hck] at hbk HB
  obtain ⟨Bv, hBv⟩ : ∃ b : Nat → List UInt8, b = blkL key n := ⟨_, rfl⟩
  rw [← hBv] at HB HYY
  clear hck hBv hY hJ
  refine callsIn_of_wp Try.func72 rfl trivial ?_ rfl
  simp only [Try.ntmps72, List.size_toArray, List.length_cons, List.length_nil, Nat.reduceAdd, Nat.reduceSub, Array.replicate_succ, Array.replicate_zero, List.push_toArray, List.append_toArray, List.nil_append, List.cons_append]
  have c2 := h2.cell 0 rfl
  gi_wp2
  · gi_loopw [8] (fun v8 wr => ∃ k : Nat, k ≤ many ∧ v8 = .int .i64 (k : Int) ∧ J (List.range k) wr ∧ Blk wr g0 #[.func (.func 65) #[] #[.pointer (some ⟨gn, 0, none⟩), .pointer (some ⟨gk, 0, none⟩)]] 114 ∧ Blk wr g1 #[.int .i64 0] 3 ∧ Blk wr g2 #[.int .i64 (many : Int)] 3 ∧
        Blk wr gn #[.int .u64 (n : Int)] 31 ∧ Blk wr gk ck 22) (fun v8 _ => many - (intOf v8).toNat)
    case atStart => exact ⟨0, by omega, rfl, hJ0, h0, h1, h2, hbn, hbk⟩
    case round =>
      obtain ⟨k, hkm, rfl, hJk, k0, k1, k2, kn, kk⟩ := hrel
      clear h0 h1 h2 hbn hbk hJ0 c2
      by_cases hlt : k < many
      · have i1 : (k : Int) < (many : Int) := by omega
        have q0 := HB.out k (by omega)
        have c0 := k0.cell 0 rfl
        have c1 := k1.cell 0 rfl
        gi_wp2
        have hm2 : Try.prog.follows .mixedOrders = true := by kernel_rfl
        have d1 : wr.drew.cell? ⟨g1, 0, none⟩ = some (.int .i64 0) := c1
        have d0 : wr.drew.cell? ⟨g0, 0, none⟩ = some (.func (.func 65) #[] #[.pointer (some ⟨gn, 0, none⟩), .pointer (some ⟨gk, 0, none⟩)]) := c0
        have kn' := kn.drew
        have kk' := kk.drew
        have qw : IntKind.i64.wrap (k : Int) = (k : Int) := IntWalk.i64_in _ (by omega)
        have J1 := HJJ.out _ _ _ hJk ((Fr0.refl _).drew)
        gi_region_with_o (first
          | (refine hR.mono ?_; rintro e W3 ⟨b, rfl, hX⟩)
          | (refine ⟨fun h => (by cases h), ?_⟩; refine hR.mono ?_; rintro e W3 ⟨b, rfl, hX⟩)
          | (refine ⟨trivial, fun h => (by cases h), ?_⟩; gi_at_call 65; refine CallsIn.mono (callsIn_wide.2 (q0 _ kn' kk')) ?_; rintro e W2 ⟨rfl, hf⟩; have J2 := HJJ.out _ _ _ J1 hf; have e1 := Fr0.cell hf d1; obtain ⟨fn, tmps, assign, body, hy, hR⟩ := HYY.out _ k W2 J2 (by simp; omega)))
        all_goals
          (rcases hX with ⟨rfl, hJ3, hk3⟩ | ⟨rfl, hJx3⟩
           · have m0 := (k0.drew.fr0 hf).fr hk3 hS.1
             have m1 := (k1.drew.fr0 hf).fr hk3 hS.2.1
             have m2 := (k2.drew.fr0 hf).fr hk3 hS.2.2.1
             have mn := (kn.drew.fr0 hf).fr hk3 hS.2.2.2.1
             have mk := (kk.drew.fr0 hf).fr hk3 hS.2.2.2.2
             gi_wp2
             go_roundw
             case rel => exact ⟨k + 1, by omega, by go_num, by rw [List.range_succ]; exact hJ3, m0, m1, m2, mn, mk⟩
             case measure => simp [intOf]; omega
           · gi_wp2
             refine bodyPost_ret (results_none rfl _ _ _) rfl ?_
             exact ⟨⟨_, rfl⟩, .inr ⟨_, trivial, hJx3⟩⟩)
      · obtain rfl : k = many := by omega
        gi_wp2
        go_end0
        exact ⟨⟨_, rfl⟩, .inl ⟨_, rfl, hJk⟩⟩
end Go.Proofs.Ytgcjbbliaelkcaa
set_option linter.unusedSimpArgs false
set_option linter.unusedVariables false
namespace Go.Proofs.Ytgcjbbliaelkcaa
open Go.RowKit
attribute [local go_sem] Oper.semAt_some

/-- A text turned by so many blocks. -/
def tnP (key : List UInt8) (n : Nat) (text : List UInt8) (pre : List Nat) : List UInt8 := (List.range text.length).map fun i => text.getD i 0 ^^^ (blkL key n (pre.getD (i / 16) 0)).getD (i % 16) 0
theorem tnP_len (key : List UInt8) (n : Nat) (text : List UInt8) (pre : List Nat) : (tnP key n text pre).length = text.length := by simp [tnP]
theorem tnP_at (key : List UInt8) (n : Nat) (text : List UInt8) (pre : List Nat) {i : Nat} (h : i < text.length) : (tnP key n text pre).getD i 0 = text.getD i 0 ^^^ (blkL key n (pre.getD (i / 16) 0)).getD (i % 16) 0 := by simp [tnP, List.getD, h]
theorem tnP_all (key : List UInt8) (n : Nat) (text : List UInt8) {m : Nat} (h : text.length ≤ 16 * m) : tnP key n text (List.range m) = tnL key n text := by
  unfold tnP tnL strB
  refine List.map_congr_left fun i hi => ?_
  have := List.mem_range.1 hi
  rw [show (List.range m).getD (i / 16) 0 = i / 16 by simp [List.getD, show i / 16 < m by omega]]
theorem tnP_more (key : List UInt8) (n : Nat) (text : List UInt8) (pre : List Nat) (x : Nat) : (tnP key n text (pre ++ [x])).take (min (16 * pre.length) text.length) = (tnP key n text pre).take (min (16 * pre.length) text.length) := by
  unfold tnP
  rw [← List.map_take, ← List.map_take]
  refine List.map_congr_left fun i hi => ?_
  obtain ⟨j, hj, rfl⟩ := List.mem_take_iff_getElem.1 hi
  simp only [List.getElem_range]
  simp only [List.length_range] at hj
  rw [show (pre ++ [x]).getD (j / 16) 0 = pre.getD (j / 16) 0 by simp [List.getD, List.getElem?_append_left (show j / 16 < pre.length by omega)]]
theorem fill_more (key : List UInt8) (n : Nat) (text : List UInt8) (pre : List Nat) (x : Nat) : fillU (tnP key n text (pre ++ [x])) text.length (min (16 * pre.length) text.length) = fillU (tnP key n text pre) text.length (min (16 * pre.length) text.length) := by
  unfold fillU; rw [tnP_more]
/-- What a byte of the block that has just come is. -/
theorem tnP_new (key : List UInt8) (n : Nat) (text : List UInt8) (pre : List Nat) (x : Nat) {i j : Nat} (hi : i = min (16 * pre.length) text.length) (hl : i + j < text.length) (hj : j < 16) :
    (tnP key n text (pre ++ [x])).getD (i + j) 0 = text.getD (i + j) 0 ^^^ (blkL key n x).getD j 0 := by
  rw [tnP_at key n text _ hl, show (i + j) / 16 = pre.length by omega, show (i + j) % 16 = j by omega]
  simp [List.getD]
theorem Blk.grown {X Y : World} {row : Option Nat} {g : Nat} {vs : Array Value} {t : TypeId} (h : Blk X g vs t) (hg : X.grownBy Y row) (hr : ∀ r, row = some r → ∃ o : Obj, X.heap[r]? = some o ∧ o.isCells = false) : Blk Y g vs t :=
  (hg.block g h.lt (fun e => by obtain ⟨o, ho, hc⟩ := hr g e.symm; rw [show X.heap[g]? = _ from h] at ho; cases ho; cases hc)).trans h
theorem Fr.keeps {S : Nat → Prop} {B : Nat} {W W' : World} (h : Fr S W W') (hs : ∀ k, S k → ∃ vs t, Blk W k vs t) : KeepsFrom B W W' :=
  ⟨h.size, fun k o _ hk hc => (h.block k (Array.getElem?_eq_some_iff.1 hk).1 (fun hS => by obtain ⟨vs, t, hb⟩ := hs k hS; rw [show W.heap[k]? = _ from hb] at hk; cases hk; cases hc)).trans hk⟩
theorem list_make_b {ops : Array Oper} {rest : List Oper} {o : Oper} {a : Act} {w : World} {Q : Exit → Act → World → Prop} (hgd : o.guard = none) (x y : Operand) (ho : o.op = .makeSlice 32 x y) (n : Nat) (hx : a.eval x = .int .i64 (n : Int)) (hy : a.eval y = .int .i64 (n : Int)) (hn : n ≤ 1000000)
    (h : ∀ g W1, Blk W1 g (byts (List.replicate n 0)).toArray 5 → Fr0 w W1 → w.heap.size ≤ g → wpList Try.prog ops Q rest (a.put o.dst (.slice (some ⟨g, 0, none⟩) n n)) W1) : wpList Try.prog ops Q (o :: rest) a w := by
  obtain ⟨i, hi, hz0, hz1, hz2⟩ := info_parts infoB2
  have hr := run_make (P := Try.prog) w 32 5 i _ Try.underlying32 hi hz0 .i64 .i64 (n : Int) (n : Int) (by omega) (Int.le_refl _) (by rw [hz2]; omega) (by omega)
  rw [Int.toNat_natCast, hz1, Nat.mul_one] at hr
  refine wpList_plain hgd fun K hK => ?_
  unfold Oper.wp execOp
  simp only [ho, hx, hy, Sem.run_bind, hr, Result.andThen_ok]
  refine hK _ _ (h w.heap.size _ ?_ ((Fr0.refl w).alloc _) (Nat.le_refl _))
  have hb := Blk.new w (madeCells (Value.int .u8 0).cells n) 5
  rw [show (madeCells (Value.int .u8 0).cells n) = (byts (List.replicate n 0)).toArray from by
    apply Array.toList_inj.1
    rw [show (Value.int .u8 0).cells = #[Value.int .u8 0] from rfl, toList_madeCells_one]
    simp [byts]] at hb ⊢
  exact hb
def left16 (x : Nat) (w : World) : Nat := match w.cell? ⟨x, 0, none⟩ with | some v => 16 - (intOf v).toNat | none => 0
theorem left16_eq {x : Nat} {w : World} {j : Int} {t : TypeId} (h : Blk w x #[.int .i64 j] t) : left16 x w = 16 - j.toNat := by unfold left16; rw [h.cell 0 rfl]; rfl
theorem two_boxes {W : World} {x y g : Nat} {tx ty tg : TypeId} {vs : Array Value} {vx vy : Value} (ux uy : Value) (hxy : x ≠ y) (hx : g ≠ x) (hy : g ≠ y) (bx : Blk W x #[vx] tx) (bY : Blk W y #[vy] ty) (bg : Blk W g vs tg) :
    Blk ((W.setCell ⟨x, 0, none⟩ ux).setCell ⟨y, 0, none⟩ uy) x #[ux] tx ∧ Blk ((W.setCell ⟨x, 0, none⟩ ux).setCell ⟨y, 0, none⟩ uy) y #[uy] ty ∧ Blk ((W.setCell ⟨x, 0, none⟩ ux).setCell ⟨y, 0, none⟩ uy) g vs tg ∧ Fr (fun k => k = x ∨ k = y) W ((W.setCell ⟨x, 0, none⟩ ux).setCell ⟨y, 0, none⟩ uy) := by
  have f1 := (Fr1.refl x W).set 0 ux
  have f2 := (Fr1.refl y (W.setCell ⟨x, 0, none⟩ ux)).set 0 uy
  exact ⟨(show Blk _ x #[ux] tx from bx.set 0 ux).fr1 f2 hxy, show Blk _ y #[uy] ty from (bY.fr1 f1 (fun e => hxy e.symm)).set 0 uy, (bg.fr1 f1 hx).fr1 f2 hy, Fr.trans (Fr.mono f1 (fun _ h => .inl h)) (Fr.mono f2 (fun _ h => .inr h))⟩
set_option maxHeartbeats 4000000 in
set_option maxRecDepth 100000 in
theorem turn0_any {key text : List UInt8} {n gn gk : Nat} {tv : Value} {w : World} (hk : key.length = 16) (hn : n < 18446744073709551616) (ht : RdB w tv text) (htl : text.length ≤ 100000)
    (hbn : Blk w gn #[.int .u64 (n : Int)] 31) (hbk : Blk w gk (byts key).toArray 22) :
    Calls Try.prog 54 #[.func (.func 65) #[] #[.pointer (some ⟨gn, 0, none⟩), .pointer (some ⟨gk, 0, none⟩)], .int .i64 0, tv] w fun e w' => ∃ g, e = .returned (.slice (some ⟨g, 0, none⟩) text.length text.length) ∧ Blk w' g (byts (tnL key n text)).toArray 5 ∧ w.heap.size ≤ g ∧ Fr0 w w' := by
  obtain ⟨At, ct, rfl, -, -, -⟩ := ht.form
  have HTX := Lib.hid (show RdB w (.slice At text.length ct) text from ht)
  obtain ⟨len, hlen⟩ : ∃ l, l = text.length := ⟨_, rfl⟩
  rw [← hlen] at HTX htl ⊢
  obtain ⟨q, hq⟩ : ∃ q, q = len / 16 := ⟨_, rfl⟩
  have q1 : (len : Int).tdiv 16 = (q : Int) := by rw [Int.tdiv_eq_ediv_of_nonneg (by omega)]; omega
  have q1' : (len : Int) / 16 = (q : Int) := by omega
  have q3 : IntKind.i64.wrap (q : Int) = (q : Int) := IntWalk.i64_in _ (by omega)
  have q4 : IntKind.i64.wrap ((q : Int) + 2) = (q : Int) + 2 := IntWalk.i64_in _ (by omega)
  have HW := Lib.hid (fun (W : World) => walk_any (gn := gn) (gk := gk) (i := 0) (m := (q : Int) + 2) W)
  have BN := Lib.hid hbn
  have BK := Lib.hid hbk
  have HLN := Lib.hid hlen
  have HQ := Lib.hid hq
  clear hlen hq ht hbn hbk
  refine (callsIn_wide (n := 9)).1 (callsIn_of_wp_marks Try.func54 rfl trivial ?_ rfl)
  simp only [Try.ntmps54, List.size_toArray, List.length_cons, List.length_nil, Nat.reduceAdd, Nat.reduceSub, Array.replicate_succ, Array.replicate_zero, List.push_toArray, List.append_toArray, List.nil_append, List.cons_append]
  refine wpIn_wide.2 ?_
  go_upto_region 3 with (refine list_make_b rfl _ _ rfl len rfl rfl (by omega) ?_; intro gs w2 hB hF hl; have BS := Lib.hid hB; have B5 := Lib.hid ((Blk.new w #[.slice At len ct] 32).fr0 hF); have F2 := Lib.hid hF; have LS := Lib.hid hl; clear hB hF hl)
  have S2 := (F2.out).size
  have LS2 := LS.out
  have LT2 := (BS.out).lt
  simp only [World.size_alloc] at S2 LS2
  obtain ⟨x7, x8, x9, h7, h8, h9⟩ : ∃ x7 x8 x9, x7 = w2.heap.size ∧ x8 = w2.heap.size + 1 ∧ x9 = w2.heap.size + 1 + 1 := ⟨_, _, _, rfl, rfl, rfl⟩
  have b7 := (Blk.new w2 #[.slice (some ⟨gs, 0, none⟩) len len] 32).alloc (.cells #[.int .i64 0] 3) |>.alloc (.cells #[.int .i64 0] 3)
  have b8 := (Blk.new (w2.alloc (.cells #[.slice (some ⟨gs, 0, none⟩) len len] 32)) #[.int .i64 0] 3).alloc (.cells #[.int .i64 0] 3)
  have b9 := Blk.new ((w2.alloc (.cells #[.slice (some ⟨gs, 0, none⟩) len len] 32)).alloc (.cells #[.int .i64 0] 3)) #[.int .i64 0] 3
  have b5 := (((B5.out).alloc (.cells #[.slice (some ⟨gs, 0, none⟩) len len] 32)).alloc (.cells #[.int .i64 0] 3)).alloc (.cells #[.int .i64 0] 3)
  have bs := (((BS.out).alloc (.cells #[.slice (some ⟨gs, 0, none⟩) len len] 32)).alloc (.cells #[.int .i64 0] 3)).alloc (.cells #[.int .i64 0] 3)
  have f8 : Fr0 w _ := ((((Fr0.refl w).alloc (.cells #[.slice At len ct] 32)).trans F2.out).alloc (.cells #[.slice (some ⟨gs, 0, none⟩) len len] 32)).alloc (.cells #[.int .i64 0] 3) |>.alloc (.cells #[.int .i64 0] 3)
  simp only [World.size_alloc] at b7 b8 b9 b5 bs
  rw [← h9, ← h8, ← h7]
  rw [← h9] at b9
  rw [← h8] at b8
  rw [← h7] at b7
  obtain ⟨x5, h5⟩ : ∃ x, x = w.heap.size := ⟨_, rfl⟩
  rw [← h5] at b5 ⊢
  obtain ⟨w8, hw8⟩ : ∃ W, W = ((w2.alloc (.cells #[.slice (some ⟨gs, 0, none⟩) len len] 32)).alloc (.cells #[.int .i64 0] 3)).alloc (.cells #[.int .i64 0] 3) := ⟨_, rfl⟩
  rw [← hw8] at b5 b7 b8 b9 bs f8 ⊢
  have o1 : x5 < gs := by omega
  have o2 : gs < x7 := by omega
  have o3 : x7 < x8 := by omega
  have o4 : x8 < x9 := by omega
  have o5 := b9.lt
  have kn := (BN.out).fr0 f8
  have kk := (BK.out).fr0 f8
  have o6 : gn < x5 := by rw [h5]; exact (BN.out).lt
  have o7 : gk < x5 := by rw [h5]; exact (BK.out).lt
  have c5 := b5.cell 0 rfl
  have H5 := Lib.hid h5
  clear h5 hw8 h7 h8 h9 B5 BS F2 LS LT2 S2 LS2
  go_wp2_with (go_at_call 64; refine (HW.out _).mono ?_; rintro e w9 ⟨g0, g1, g2, rfl, B0, B1, B2, l0, l1, l2, hf⟩)
  rw [show (q : Int) + 2 = ((q + 2 : Nat) : Int) by omega] at B2
  have C5 := b5.fr0 hf
  have C7 := b7.fr0 hf
  have C8 := b8.fr0 hf
  have C9 := b9.fr0 hf
  have CS := bs.fr0 hf
  have F9 := Fr0.trans f8 hf
  have CN := kn.fr0 hf
  have CK := kk.fr0 hf
  have o8 := (f8).size
  have o9 := hf.size
  have o10 := B0.lt
  have o11 := B1.lt
  have o12 := B2.lt
  clear b5 b7 b8 b9 bs f8 hf kn kk HW c5
  obtain ⟨S, hS⟩ : ∃ S : Nat → Prop, S = fun k => k = x8 ∨ k = x9 ∨ k = gs ∨ w9.heap.size ≤ k := ⟨_, rfl⟩
  have HSS : ∀ k, S k ↔ (k = x8 ∨ k = x9 ∨ k = gs ∨ w9.heap.size ≤ k) := fun k => by rw [hS]
  have HSEQ : SeqStopsK Fence.wide (9 - 1) Try.prog 72 #[.pointer (some ⟨g2, 0, none⟩), .pointer (some ⟨g1, 0, none⟩), .pointer (some ⟨g0, 0, none⟩)] (fun x : Nat => #[Value.int .i64 (x : Int), .agg (byts (blkL key n x)).toArray]) (Fr S) (fun ys => ys = List.range (q + 2)) (fun _ => True) (q + 2) w9 :=
    fun l J Jx W hW hJ hJx hY h0 => walk1_in (S := S) (d := 8) hk hn (by omega) (by omega) l J Jx W.heap.size hJ (by simp only [HSS]; refine ⟨?_, ?_, ?_, ?_, ?_⟩ <;> omega) hY W (B0.fr0 (Fr0.of_below hW)) (B1.fr0 (Fr0.of_below hW)) (B2.fr0 (Fr0.of_below hW)) (CN.fr0 (Fr0.of_below hW)) (CK.fr0 (Fr0.of_below hW)) h0
  refine (wpIn_wide (n := 9)).1 ?_
  have TL := Lib.hid (fun pre => (tnP_len key n text pre).trans (HLN.out).symm)
  have TM := Lib.hid (fun pre x => fill_more key n text pre x)
  have TN := Lib.hid (fun pre x i j (h1 : i = min (16 * pre.length) text.length) h2 h3 => tnP_new key n text pre x (i := i) (j := j) h1 h2 h3)
  have TA := Lib.hid (tnP_all key n text (m := q + 2) (by have := HQ.out; have := HLN.out; omega))
  have BL := Lib.hid (blkL_len key n)
  rw [← HLN.out] at TM TN
  obtain ⟨T, hT⟩ : ∃ t, t = tnP key n text := ⟨_, rfl⟩
  rw [← hT] at TL TM TN TA
  obtain ⟨bl, hbl⟩ : ∃ b, b = blkL key n := ⟨_, rfl⟩
  rw [← hbl] at HSEQ TN BL
  have e0 : fillU (T []) len (min (16 * ([] : List Nat).length) len) = List.replicate len 0 := by
    rw [show min (16 * ([] : List Nat).length) len = 0 by simp, fillU_zero]
  refine wpIn_rangeFunc_ownH (F := Fence.wide) rfl (by decide) (gf := 72) (lb := #[.pointer (some ⟨g2, 0, none⟩), .pointer (some ⟨g1, 0, none⟩), .pointer (some ⟨g0, 0, none⟩)]) rfl trivial (enters_of Try.func72 (by kernel_rfl) rfl) HSEQ
    (fun h1 h2 => Fr.trans h1 h2) (fun W l o o' hl _ _ _ => Fr.grown (Fr.refl S W) (grownBy_putObj' W l o') (fun k e => .inl (by cases e; exact (HSS _).2 (.inr (.inr (.inr hl)))))) (Below.refl _ _) (fun _ => rfl)
    (fun pre W => (Blk W x5 #[.slice At len ct] 32 ∧ Blk W x7 #[.slice (some ⟨gs, 0, none⟩) len len] 32 ∧ Blk W x8 #[.int .i64 ((min (16 * pre.length) len : Nat) : Int)] 3 ∧ Blk W x9 #[.int .i64 0] 3 ∧ Blk W gs (byts (fillU (T pre) len (min (16 * pre.length) len))).toArray 5) ∧ Fr0 w W ∧ w9.heap.size ≤ W.heap.size)
    (fun _ _ _ => False)
    (fun s X Y row hs hg hr => ⟨⟨hs.1.1.grown hg (fun r e => (hr r e).2), hs.1.2.1.grown hg (fun r e => (hr r e).2), hs.1.2.2.1.grown hg (fun r e => (hr r e).2), hs.1.2.2.2.1.grown hg (fun r e => (hr r e).2), hs.1.2.2.2.2.grown hg (fun r e => (hr r e).2)⟩, hs.2.1.grown hg (fun k e => .inr (by have := (hr k e).1; omega)), Nat.le_trans hs.2.2 hg.size⟩)
    (fun _ _ _ _ _ hs _ _ => hs)
    ⟨⟨C5, C7, by rw [show min (16 * ([] : List Nat).length) len = 0 by simp]; exact C8, C9, by rw [e0]; exact CS⟩, F9, Nat.le_refl _⟩
    (fun x a' W => ∃ Bx, w9.heap.size ≤ Bx ∧ Blk W Bx (byts (bl x)).toArray 22 ∧ ∃ v25 v26, a' = { tmps := #[.func (.func 65) #[] #[.pointer (some ⟨gn, 0, none⟩), .pointer (some ⟨gk, 0, none⟩)], .int .i64 0, .slice At len ct, undef, undef, .pointer (some ⟨x5, 0, none⟩), .slice none 0 0, .pointer (some ⟨x7, 0, none⟩), .pointer (some ⟨x8, 0, none⟩), .pointer (some ⟨x9, 0, none⟩), undef, .pointer (some ⟨Bx, 0, none⟩),
        .slice At len ct, .int .i64 (len : Int), .slice (some ⟨gs, 0, none⟩) len len, .int .i64 0, .int .i64 0, .func (.func 65) #[] #[.pointer (some ⟨gn, 0, none⟩), .pointer (some ⟨gk, 0, none⟩)], .int .i64 0, .int .i64 0, .slice At len ct, .int .i64 (len : Int), .int .i64 (q : Int), .int .i64 ((q : Int) + 2), .func (.func 72) #[] #[.pointer (some ⟨g2, 0, none⟩), .pointer (some ⟨g1, 0, none⟩), .pointer (some ⟨g0, 0, none⟩)], v25, v26,
        undef, undef, undef, undef, undef, undef, undef, undef, undef, undef, undef, undef, undef, undef, undef, undef, undef, undef, undef, undef, undef, undef, undef, undef], defers := [] })
    (fun x a' _ X Y row hs hg hr => by obtain ⟨Bx, e1, e2, e3⟩ := hs; exact ⟨Bx, e1, e2.grown hg (fun r e => (hr r e).2), e3⟩)
    ?assign ?body ?done ?stop
  case assign =>
    rintro l pre x W K ⟨⟨i5, i7, i8, i9, is⟩, hF, hw9⟩ hK
    refine wpInR_region (fun _ _ h => h) (by kernel_rfl) ?_
    refine list_alloc_blk rfl 22 rfl z16A (fun W => z16_run W) ?_
    intro gx wa hB hA hl
    refine list_store_blk rfl 22 _ _ rfl gx (byts (bl x)).toArray (by kernel_rfl) (by kernel_rfl) 22 z16A hB (a16_info (BL.out x)) (z16_size (BL.out x)) (byts_all _) ?_
    intro wb hB2 hA2
    refine wpList_nil ?_
    have hAB : Fr0 W wb := Fr0.new hA hA2 hl
    have hsz := hF.size
    have k9 := C9.lt
    refine hK _ _ (Fr.keeps hAB (fun _ h => h.elim)) (Fr.mono hAB (fun _ h => h.elim)) ⟨⟨i5.fr0 hAB, i7.fr0 hAB, i8.fr0 hAB, i9.fr0 hAB, is.fr0 hAB⟩, Fr0.trans hF hAB, Nat.le_trans hw9 hAB.size⟩ ⟨gx, ?_, hB2, .int .i64 (x : Int), .agg (byts (bl x)).toArray, by kernel_rfl⟩
    exact Nat.le_trans hw9 hl
  case body =>
    rintro l pre x a' W hl ⟨r, hr⟩ ⟨⟨i5, i7, i8, i9, is⟩, hF, hw9⟩ ⟨Bx, hBx, bX, v25, v26, rfl⟩ hlt
    have SM := Lib.hid (fun j (h1 : min (16 * pre.length) len + j < len) (h2 : j < 16) => TN.out pre x _ j rfl h1 h2)
    rw [← TM.out pre x] at is
    have TL2 := Lib.hid (TL.out (pre ++ [x]))
    have LEN2 : (pre ++ [x]).length = pre.length + 1 := by simp
    have LE := Lib.hid LEN2
    obtain ⟨m0, hm0⟩ : ∃ m, m = min (16 * pre.length) len := ⟨_, rfl⟩
    rw [← hm0] at is i8 SM
    obtain ⟨T2, hT2⟩ : ∃ t, t = T (pre ++ [x]) := ⟨_, rfl⟩
    rw [← hT2] at is SM TL2
    have HT2 := Lib.hid hT2
    have HM0 := Lib.hid hm0
    have hm1 : m0 ≤ len := by omega
    obtain ⟨bx, hbx⟩ : ∃ b, b = bl x := ⟨_, rfl⟩
    have BLX := Lib.hid (BL.out x)
    rw [← hbx] at bX SM BLX
    have E1 := Lib.hid o1
    have kx := bX.lt
    obtain ⟨S2, hS2⟩ : ∃ S : Nat → Prop, S = fun k => k = x8 ∨ k = x9 ∨ k = gs := ⟨_, rfl⟩
    have HS2 := Lib.hid (fun k => show S2 k ↔ (k = x8 ∨ k = x9 ∨ k = gs) by rw [hS2])
    have NS := Lib.hid (show ¬ S2 x5 ∧ ¬ S2 x7 ∧ ¬ S2 Bx by simp only [HS2.out]; refine ⟨?_, ?_, ?_⟩ <;> omega)
    clear hT2 hm0 hbx hS2 TM TN TA
    gi_wp2
    clear HSEQ hl hr C5 C7 C8 C9 CS F9 CN CK B0 B1 B2 o6 o7 o8 o9 o10 o11 o12 l0 l1 l2 e0 hT hbl hk hn q1 q1' q3 q4
    have i5' := Lib.hid i5
    have i7' := Lib.hid i7
    have bX' := Lib.hid bX
    have hF' := Lib.hid hF
    have FIN := Lib.hid (show ∀ (wr : World) (v : Value) (j m : Nat), m = m0 + j → (m = len ∨ j = 16) → j ≤ 16 → m ≤ len → Blk wr x8 #[.int .i64 (m : Int)] 3 → Blk wr x9 #[v] 3 → Blk wr gs (byts (fillU T2 len m)).toArray 5 → Fr S2 W wr →
        KeepsFrom w9.heap.size W (wr.setCell ⟨x9, 0, none⟩ (.int .i64 0)) ∧ Fr S W (wr.setCell ⟨x9, 0, none⟩ (.int .i64 0)) ∧ ((Blk (wr.setCell ⟨x9, 0, none⟩ (.int .i64 0)) x5 #[.slice At len ct] 32 ∧ Blk (wr.setCell ⟨x9, 0, none⟩ (.int .i64 0)) x7 #[.slice (some ⟨gs, 0, none⟩) len len] 32 ∧ Blk (wr.setCell ⟨x9, 0, none⟩ (.int .i64 0)) x8 #[.int .i64 ((min (16 * (pre ++ [x]).length) len : Nat) : Int)] 3 ∧ Blk (wr.setCell ⟨x9, 0, none⟩ (.int .i64 0)) x9 #[.int .i64 0] 3 ∧ Blk (wr.setCell ⟨x9, 0, none⟩ (.int .i64 0)) gs (byts (fillU (T (pre ++ [x])) len (min (16 * (pre ++ [x]).length) len))).toArray 5) ∧ Fr0 w (wr.setCell ⟨x9, 0, none⟩ (.int .i64 0)) ∧ w9.heap.size ≤ (wr.setCell ⟨x9, 0, none⟩ (.int .i64 0)).heap.size) from by
      intro wr v j m e1 e2 ej e3 k8 k9 ks kf
      have em : min (16 * (pre ++ [x]).length) len = m := by rw [LE.out]; have := HM0.out; omega
      have rf := (Fr1.refl x9 wr).set 0 (.int .i64 0)
      have rF : Fr S2 W (wr.setCell ⟨x9, 0, none⟩ (.int .i64 0)) := Fr.trans kf (Fr.mono rf (fun k h => (HS2.out k).2 (.inr (.inl h))))
      rw [em, ← HT2.out]
      refine ⟨Fr.keeps rF (fun k h => ?_), Fr.mono rF (fun k h => ?_), ⟨(i5'.out).fr rF (NS.out).1, (i7'.out).fr rF (NS.out).2.1, k8.fr1 rf (by omega), k9.set 0 _, ks.fr1 rf (by omega)⟩, Fr.then hF rF (fun k h _ => ?_), Nat.le_trans hw9 rF.size⟩
      · rcases (HS2.out k).1 h with rfl | rfl | rfl
        · exact ⟨_, _, i8⟩
        · exact ⟨_, _, i9⟩
        · exact ⟨_, _, is⟩
      · rcases (HS2.out k).1 h with rfl | rfl | rfl
        · exact (HSS _).2 (.inl rfl)
        · exact (HSS _).2 (.inr (.inl rfl))
        · exact (HSS _).2 (.inr (.inr (.inl rfl)))
      · have := (HS2.out k).1 h
        have := H5.out
        omega)
    gi_loopw [] (fun wr => ∃ j : Nat, j ≤ 16 ∧ m0 + j ≤ len ∧ Blk wr x8 #[.int .i64 ((m0 + j : Nat) : Int)] 3 ∧ Blk wr x9 #[.int .i64 (j : Int)] 3 ∧ Blk wr gs (byts (fillU T2 len (m0 + j))).toArray 5 ∧ Fr S2 W wr) (fun wr => left16 x9 wr)
    case atStart => exact ⟨0, by omega, by omega, i8, i9, is, Fr.refl _ _⟩
    case round =>
      obtain ⟨j, hj, hml, k8, k9, ks, kf⟩ := hrel
      clear i5 i7 i8 i9 is bX
      have j5 := (i5'.out).fr kf (NS.out).1
      have j7 := (i7'.out).fr kf (NS.out).2.1
      have jX := (bX'.out).fr kf (NS.out).2.2
      obtain ⟨m, hm⟩ : ∃ m, m = m0 + j := ⟨_, rfl⟩
      rw [← hm] at hml k8 ks
      have HMJ := Lib.hid hm
      have K9O := Lib.hid k9
      have c5 := j5.cell 0 rfl
      have c7 := j7.cell 0 rfl
      have c8 := k8.cell 0 rfl
      have c9 := k9.cell 0 rfl
      have i0 : (0 : Int) ≤ (m : Int) := by omega
      by_cases h1 : m < len
      · have i1 : (m : Int) < (len : Int) := by omega
        by_cases h2 : j < 16
        · have j1 : (j : Int) < 16 := by omega
          have j0 : (0 : Int) ≤ (j : Int) := by omega
          have hil : m < text.length := by rw [← HLN.out]; exact h1
          obtain ⟨ga, oa, ca', hva, hca, hga, da⟩ := (show RdB w (.slice At text.length ct) text by rw [← HLN.out]; exact HTX.out).cell hil
          injection hva with hA1 _ hA2
          subst hA1 hA2
          have hel : text[m] = text.getD m 0 := by simp [List.getD, hil]
          rw [hel] at da
          have hsm := (SM.out) j (by rw [← hm]; exact h1) h2
          rw [← hm] at hsm
          have da2 := Fr.cell (p := ⟨ga, oa + m, none⟩) kf (by show ¬ S2 ga; have := H5.out; simp only [HS2.out]; omega) ((hF'.out).cell da)
          have cx := jX.u8 (i := j) (by rw [BLX.out]; exact h2)
          have HN := Lib.hid (ks.fill TL2.out h1)
          have fs := ks.free m
          have cs := ks.u8 (i := m) (by rw [fillU_len TL2.out hml]; exact h1)
          obtain ⟨xx, hx⟩ : ∃ x, x = text.getD m 0 := ⟨_, rfl⟩
          obtain ⟨y, hy⟩ : ∃ y, y = bx.getD j 0 := ⟨_, rfl⟩
          obtain ⟨t, htt⟩ : ∃ t, t = T2.getD m 0 := ⟨_, rfl⟩
          rw [← hx, ← hy, ← htt] at hsm
          rw [← htt] at HN
          rw [← hx] at da2
          rw [← hy] at cx
          have hxy := xorU xx y
          rw [← hsm] at hxy
          clear hx hy htt hsm hm da hga hel hil
          gi_wp2
          refine wpInR_still_tail 11 (by kernel_rfl) (by kernel_rfl) (by kernel_rfl) (fun _ _ h => h) ?_
          simp only [List.take_succ_cons, List.take_zero, List.drop_succ_cons, List.drop_zero]
          repeat still_step
          try refine wpStill_nil ?_
          go_wp2_with fail
          obtain ⟨wb, hwb⟩ : ∃ W, W = (wr.setCell ⟨gs, m, none⟩ (.int .u8 (t.toNat : Int))).drew := ⟨_, rfl⟩
          have FB : Fr1 gs wr wb := by rw [hwb]; exact ((Fr1.refl gs wr).set m (.int .u8 (t.toNat : Int))).drew
          have HB : Blk wb gs (byts (fillU T2 len (m + 1))).toArray 5 := by rw [hwb]; exact (HN.out).drew
          rw [← hwb]
          have b8 := k8.fr1 FB (by omega)
          have b9 := k9.fr1 FB (by omega)
          clear hwb HN fs cs c5 c7 c8 c9 cx da2 hxy k8 k9 ks
          have c8 := b8.cell 0 rfl
          have c9 := b9.cell 0 rfl
          have f8 := b8.free 0
          have f9 := b9.free 0
          have w8' : IntKind.i64.wrap ((m : Int) + 1) = (m : Int) + 1 := IntWalk.i64_in _ (by omega)
          have w9' : IntKind.i64.wrap ((j : Int) + 1) = (j : Int) + 1 := IntWalk.i64_in _ (by omega)
          have hm2 : Try.prog.follows .mixedOrders = true := by kernel_rfl
          have kf2 : Fr S2 W wb := Fr.trans kf (Fr.mono FB (fun k h => (HS2.out k).2 (.inr (.inr h))))
          gi_region_with_o fail
          all_goals
            (gi_wp2
             go_roundw
             case rel =>
               first
                 | (obtain ⟨r8, r9, rs, rf⟩ := two_boxes (.int .i64 ((m : Int) + 1)) (.int .i64 ((j : Int) + 1)) (show x8 ≠ x9 by omega) (show gs ≠ x8 by omega) (show gs ≠ x9 by omega) b8.drew b9.drew HB.drew
                    exact ⟨j + 1, by omega, by have := HMJ.out; omega, by rw [show m0 + (j + 1) = m + 1 by have := HMJ.out; omega]; exact r8, r9, by rw [show m0 + (j + 1) = m + 1 by have := HMJ.out; omega]; exact rs, Fr.trans kf2.drew (Fr.mono rf (fun k h => (HS2.out k).2 (by rcases h with h | h; exact .inl h; exact .inr (.inl h))))⟩)
                 | (obtain ⟨r9, r8, rs, rf⟩ := two_boxes (.int .i64 ((j : Int) + 1)) (.int .i64 ((m : Int) + 1)) (show x9 ≠ x8 by omega) (show gs ≠ x9 by omega) (show gs ≠ x8 by omega) b9.drew b8.drew HB.drew
                    exact ⟨j + 1, by omega, by have := HMJ.out; omega, by rw [show m0 + (j + 1) = m + 1 by have := HMJ.out; omega]; exact r8, r9, by rw [show m0 + (j + 1) = m + 1 by have := HMJ.out; omega]; exact rs, Fr.trans kf2.drew (Fr.mono rf (fun k h => (HS2.out k).2 (by rcases h with h | h; exact .inr (.inl h); exact .inl h)))⟩)
             case measure =>
               first
                 | (obtain ⟨-, r9, -, -⟩ := two_boxes (.int .i64 ((m : Int) + 1)) (.int .i64 ((j : Int) + 1)) (show x8 ≠ x9 by omega) (show gs ≠ x8 by omega) (show gs ≠ x9 by omega) b8.drew b9.drew HB.drew
                    refine Nat.lt_of_le_of_lt (Nat.le_of_eq (left16_eq (j := (j : Int) + 1) r9)) ?_
                    rw [left16_eq K9O.out]; omega)
                 | (obtain ⟨r9, -, -, -⟩ := two_boxes (.int .i64 ((j : Int) + 1)) (.int .i64 ((m : Int) + 1)) (show x9 ≠ x8 by omega) (show gs ≠ x9 by omega) (show gs ≠ x8 by omega) b9.drew b8.drew HB.drew
                    refine Nat.lt_of_le_of_lt (Nat.le_of_eq (left16_eq (j := (j : Int) + 1) r9)) ?_
                    rw [left16_eq K9O.out]; omega))
        · obtain rfl : j = 16 := by omega
          have f9 := k9.free 0
          clear hm
          gi_wp2
          exact FIN.out _ _ _ _ HMJ.out (.inr rfl) (Nat.le_refl _) hml k8 k9 ks kf
      · obtain rfl : m = len := by omega
        have f9 := k9.free 0
        clear hm
        gi_wp2
        exact FIN.out _ _ _ _ HMJ.out (.inl rfl) hj hml k8 k9 ks kf
  case done =>
    rintro D xs W hD rfl ⟨⟨i5, i7, i8, i9, is⟩, hF, hw9⟩ hK
    have e : min (16 * (List.range (q + 2)).length) len = len := by rw [List.length_range]; have := HQ.out; omega
    rw [e, fillU_all (TL.out _), TA.out] at is
    have c7 := i7.cell 0 rfl
    have H5' := H5.out
    have IS := Lib.hid is
    clear is TA TL TN TM BL e0 hT hbl HSEQ
    go_wp2_with fail
    refine ⟨by simp, .inl ⟨_, _, rfl, run_takeDeferred hK, ?_⟩⟩
    have hg := grownBy_putObj' W D (.deferred none)
    exact ⟨_, results_tmp rfl _ _ _, gs, rfl, (IS.out).grown hg (fun r e => by cases e; exact ⟨_, hK, rfl⟩), by omega, hF.grown hg (fun k e => .inr (by cases e; omega))⟩
  case stop =>
    rintro D c pre W _ _ h _
    exact h.elim
end Go.Proofs.Ytgcjbbliaelkcaa
