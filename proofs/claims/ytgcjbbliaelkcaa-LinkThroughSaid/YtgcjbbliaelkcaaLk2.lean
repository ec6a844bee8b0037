/- A link's New, Copy, and what it tells of itself. Conditions stand in the statements. -/
import Derived.Test.YtgcjbbliaelkcaaLk
set_option linter.unusedSimpArgs false
set_option linter.unusedVariables false
namespace Go.Proofs.Ytgcjbbliaelkcaa
open Go.RowKit

theorem list48 {l : List UInt8} (h : l.length = 48) : ∃ y00 y01 y02 y03 y04 y05 y06 y07 y08 y09 y10 y11 y12 y13 y14 y15 y16 y17 y18 y19 y20 y21 y22 y23 y24 y25 y26 y27 y28 y29 y30 y31 y32 y33 y34 y35 y36 y37 y38 y39 y40 y41 y42 y43 y44 y45 y46 y47,
    l = [y00, y01, y02, y03, y04, y05, y06, y07, y08, y09, y10, y11, y12, y13, y14, y15, y16, y17, y18, y19, y20, y21, y22, y23, y24, y25, y26, y27, y28, y29, y30, y31, y32, y33, y34, y35, y36, y37, y38, y39, y40, y41, y42, y43, y44, y45, y46, y47] := by
  rcases l with _ | ⟨y00, l⟩; · exact absurd h (by simp)
  rcases l with _ | ⟨y01, l⟩; · exact absurd h (by simp)
  rcases l with _ | ⟨y02, l⟩; · exact absurd h (by simp)
  rcases l with _ | ⟨y03, l⟩; · exact absurd h (by simp)
  rcases l with _ | ⟨y04, l⟩; · exact absurd h (by simp)
  rcases l with _ | ⟨y05, l⟩; · exact absurd h (by simp)
  rcases l with _ | ⟨y06, l⟩; · exact absurd h (by simp)
  rcases l with _ | ⟨y07, l⟩; · exact absurd h (by simp)
  rcases l with _ | ⟨y08, l⟩; · exact absurd h (by simp)
  rcases l with _ | ⟨y09, l⟩; · exact absurd h (by simp)
  rcases l with _ | ⟨y10, l⟩; · exact absurd h (by simp)
  rcases l with _ | ⟨y11, l⟩; · exact absurd h (by simp)
  rcases l with _ | ⟨y12, l⟩; · exact absurd h (by simp)
  rcases l with _ | ⟨y13, l⟩; · exact absurd h (by simp)
  rcases l with _ | ⟨y14, l⟩; · exact absurd h (by simp)
  rcases l with _ | ⟨y15, l⟩; · exact absurd h (by simp)
  rcases l with _ | ⟨y16, l⟩; · exact absurd h (by simp)
  rcases l with _ | ⟨y17, l⟩; · exact absurd h (by simp)
  rcases l with _ | ⟨y18, l⟩; · exact absurd h (by simp)
  rcases l with _ | ⟨y19, l⟩; · exact absurd h (by simp)
  rcases l with _ | ⟨y20, l⟩; · exact absurd h (by simp)
  rcases l with _ | ⟨y21, l⟩; · exact absurd h (by simp)
  rcases l with _ | ⟨y22, l⟩; · exact absurd h (by simp)
  rcases l with _ | ⟨y23, l⟩; · exact absurd h (by simp)
  rcases l with _ | ⟨y24, l⟩; · exact absurd h (by simp)
  rcases l with _ | ⟨y25, l⟩; · exact absurd h (by simp)
  rcases l with _ | ⟨y26, l⟩; · exact absurd h (by simp)
  rcases l with _ | ⟨y27, l⟩; · exact absurd h (by simp)
  rcases l with _ | ⟨y28, l⟩; · exact absurd h (by simp)
  rcases l with _ | ⟨y29, l⟩; · exact absurd h (by simp)
  rcases l with _ | ⟨y30, l⟩; · exact absurd h (by simp)
  rcases l with _ | ⟨y31, l⟩; · exact absurd h (by simp)
  rcases l with _ | ⟨y32, l⟩; · exact absurd h (by simp)
  rcases l with _ | ⟨y33, l⟩; · exact absurd h (by simp)
  rcases l with _ | ⟨y34, l⟩; · exact absurd h (by simp)
  rcases l with _ | ⟨y35, l⟩; · exact absurd h (by simp)
  rcases l with _ | ⟨y36, l⟩; · exact absurd h (by simp)
  rcases l with _ | ⟨y37, l⟩; · exact absurd h (by simp)
  rcases l with _ | ⟨y38, l⟩; · exact absurd h (by simp)
  rcases l with _ | ⟨y39, l⟩; · exact absurd h (by simp)
  rcases l with _ | ⟨y40, l⟩; · exact absurd h (by simp)
  rcases l with _ | ⟨y41, l⟩; · exact absurd h (by simp)
  rcases l with _ | ⟨y42, l⟩; · exact absurd h (by simp)
  rcases l with _ | ⟨y43, l⟩; · exact absurd h (by simp)
  rcases l with _ | ⟨y44, l⟩; · exact absurd h (by simp)
  rcases l with _ | ⟨y45, l⟩; · exact absurd h (by simp)
  rcases l with _ | ⟨y46, l⟩; · exact absurd h (by simp)
  rcases l with _ | ⟨y47, l⟩; · exact absurd h (by simp)
  rcases l with _ | ⟨_, l⟩
  · exact ⟨_, _, _, _, _, _, _, _, _, _, _, _, _, _, _, _, _, _, _, _, _, _, _, _, _, _, _, _, _, _, _, _, _, _, _, _, _, _, _, _, _, _, _, _, _, _, _, _, rfl⟩
  · simp only [List.length_cons] at h; omega
/-- A new link. -/
def newLk (key : List UInt8) (dn : Bool) (n : Nat) (addr : Int) : Lk := ⟨true, key, dn, n, addr, false, 0, 0, 0, 0, false, 0, 0⟩
set_option maxRecDepth 10000 in
theorem link_built {key : List UInt8} (hk : key.length = 48) (dn : Bool) (n : Nat) (addr : Int) : Try.prog.built 64 [(0, .bool true), (1, .agg (byts key).toArray), (2, .bool dn), (3, .int .u64 (n : Int)), (4, .int .i64 addr)] = some (lkC (newLk key dn n addr)).toArray := by
  obtain ⟨y00, y01, y02, y03, y04, y05, y06, y07, y08, y09, y10, y11, y12, y13, y14, y15, y16, y17, y18, y19, y20, y21, y22, y23, y24, y25, y26, y27, y28, y29, y30, y31, y32, y33, y34, y35, y36, y37, y38, y39, y40, y41, y42, y43, y44, y45, y46, y47, rfl⟩ := list48 hk
  kernel_rfl
set_option maxHeartbeats 400000 in
theorem lnext_any {p : Nat} {s : Lk} {w : World} (h : LkV w p s) (hm : s.made = true) : Calls Try.prog 12 #[.pointer (some ⟨p, 0, none⟩)] w fun e w' => e = .returned (.int .u64 (s.next : Int)) ∧ Fr0 w w' := by
  have HT := Lib.hid (lthere_any h)
  rw [hm] at HT
  have c50 : w.cell? ⟨p, 50, none⟩ = some (.int .u64 (s.next : Int)) := h.cell 1 rfl
  clear h hm
  go_enter Try.func12, Try.ntmps12
  go_wp2_with (go_at_call 26; refine (HT.out).mono ?_; rintro e w' ⟨rfl, rfl⟩)
  go_ret
  exact ⟨rfl, Fr0.refl w⟩
theorem lnext_off {p : Nat} {s : Lk} {w : World} (h : LkV w p s) (hm : s.made = false) : Calls Try.prog 12 #[.pointer (some ⟨p, 0, none⟩)] w fun e w' => e = .returned (.int .u64 0) ∧ Fr0 w w' := by
  have HT := Lib.hid (lthere_any h)
  rw [hm] at HT
  clear h hm
  go_enter Try.func12, Try.ntmps12
  go_wp2_with (go_at_call 26; refine (HT.out).mono ?_; rintro e w' ⟨rfl, rfl⟩)
  go_ret
  exact ⟨rfl, Fr0.refl w⟩
theorem lnext_nil (w : World) : Calls Try.prog 12 #[.pointer none] w fun e w' => e = .returned (.int .u64 0) ∧ Fr0 w w' := by
  have HT := Lib.hid (lthere_nil w)
  go_enter Try.func12, Try.ntmps12
  go_wp2_with (go_at_call 26; refine (HT.out).mono ?_; rintro e w' ⟨rfl, rfl⟩)
  go_ret
  exact ⟨rfl, Fr0.refl w⟩
set_option maxHeartbeats 400000 in
theorem laddr_any {p : Nat} {s : Lk} {w : World} (h : LkV w p s) (hm : s.made = true) : Calls Try.prog 21 #[.pointer (some ⟨p, 0, none⟩)] w fun e w' => e = .returned (.int .i64 s.addr) ∧ Fr0 w w' := by
  have HT := Lib.hid (lthere_any h)
  rw [hm] at HT
  have c51 : w.cell? ⟨p, 51, none⟩ = some (.int .i64 s.addr) := h.cell 2 rfl
  clear h hm
  go_enter Try.func21, Try.ntmps21
  go_wp2_with (go_at_call 26; refine (HT.out).mono ?_; rintro e w' ⟨rfl, rfl⟩)
  go_ret
  exact ⟨rfl, Fr0.refl w⟩
theorem laddr_off {p : Nat} {s : Lk} {w : World} (h : LkV w p s) (hm : s.made = false) : Calls Try.prog 21 #[.pointer (some ⟨p, 0, none⟩)] w fun e w' => e = .returned (.int .i64 0) ∧ Fr0 w w' := by
  have HT := Lib.hid (lthere_any h)
  rw [hm] at HT
  clear h hm
  go_enter Try.func21, Try.ntmps21
  go_wp2_with (go_at_call 26; refine (HT.out).mono ?_; rintro e w' ⟨rfl, rfl⟩)
  go_ret
  exact ⟨rfl, Fr0.refl w⟩
theorem laddr_nil (w : World) : Calls Try.prog 21 #[.pointer none] w fun e w' => e = .returned (.int .i64 0) ∧ Fr0 w w' := by
  have HT := Lib.hid (lthere_nil w)
  go_enter Try.func21, Try.ntmps21
  go_wp2_with (go_at_call 26; refine (HT.out).mono ?_; rintro e w' ⟨rfl, rfl⟩)
  go_ret
  exact ⟨rfl, Fr0.refl w⟩
set_option maxHeartbeats 400000 in
theorem lnewest_any {p : Nat} {s : Lk} {w : World} (h : LkV w p s) (hm : s.made = true) : Calls Try.prog 20 #[.pointer (some ⟨p, 0, none⟩)] w fun e w' => e = .returned (.tuple #[.int .u64 (s.newest : Int), .bool s.heard]) ∧ Fr0 w w' := by
  have HT := Lib.hid (lthere_any h)
  rw [hm] at HT
  have c52 : w.cell? ⟨p, 52, none⟩ = some (.bool s.heard) := h.cell 3 rfl
  have c53 : w.cell? ⟨p, 53, none⟩ = some (.int .u64 (s.newest : Int)) := h.cell 4 rfl
  clear h hm
  go_enter Try.func20, Try.ntmps20
  go_upto_region 3 with (go_at_call 26; refine (HT.out).mono ?_; rintro e w' ⟨rfl, rfl⟩)
  go_quiet (fail)
  go_wp2_with fail
  go_ret2
  exact ⟨rfl, (Fr0.refl w).drewN _⟩
theorem lnewest_off {p : Nat} {s : Lk} {w : World} (h : LkV w p s) (hm : s.made = false) : Calls Try.prog 20 #[.pointer (some ⟨p, 0, none⟩)] w fun e w' => e = .returned (.tuple #[.int .u64 0, .bool false]) ∧ Fr0 w w' := by
  have HT := Lib.hid (lthere_any h)
  rw [hm] at HT
  clear h hm
  go_enter Try.func20, Try.ntmps20
  go_wp2_with (go_at_call 26; refine (HT.out).mono ?_; rintro e w' ⟨rfl, rfl⟩)
  go_ret2
  exact ⟨rfl, Fr0.refl w⟩
theorem lnewest_nil (w : World) : Calls Try.prog 20 #[.pointer none] w fun e w' => e = .returned (.tuple #[.int .u64 0, .bool false]) ∧ Fr0 w w' := by
  have HT := Lib.hid (lthere_nil w)
  go_enter Try.func20, Try.ntmps20
  go_wp2_with (go_at_call 26; refine (HT.out).mono ?_; rintro e w' ⟨rfl, rfl⟩)
  go_ret2
  exact ⟨rfl, Fr0.refl w⟩
theorem lmeter_any {p : Nat} {s : Lk} {w : World} (h : LkV w p s) (hm : s.made = true) : Calls Try.prog 22 #[.pointer (some ⟨p, 0, none⟩)] w fun e w' => e = .returned (.agg #[.int .i64 s.many, .int .i64 s.mid, .int .i64 s.off]) ∧ Fr0 w w' := by
  have h0 := h.fr0 ((Fr0.refl w).alloc (.cells #[.int .i64 0, .int .i64 0, .int .i64 0] 49))
  have HT := Lib.hid (lthere_any h0)
  rw [hm] at HT
  have c54 := h0.cell 5 rfl
  have c55 := h0.cell 6 rfl
  have c56 := h0.cell 7 rfl
  clear h h0 hm
  go_enter Try.func22, Try.ntmps22
  go_wp2_with (go_at_call 26; refine (HT.out).mono ?_; rintro e w' ⟨rfl, rfl⟩)
  have b := Blk.new w #[.int .i64 s.many, .int .i64 s.mid, .int .i64 s.off] 49
  exact bodyPost_ret (v := .agg #[.int .i64 s.many, .int .i64 s.mid, .int .i64 s.off]) (results_cell_row rfl _ _ w.heap.size 49 #[.int .i64 s.many, .int .i64 s.mid, .int .i64 s.off] (0, 0) _ rfl b Try.underlying49 rfl (by kernel_rfl)) rfl ⟨rfl, (Fr0.refl w).alloc _⟩
theorem lmeter_off {p : Nat} {s : Lk} {w : World} (h : LkV w p s) (hm : s.made = false) : Calls Try.prog 22 #[.pointer (some ⟨p, 0, none⟩)] w fun e w' => e = .returned (.agg #[.int .i64 0, .int .i64 0, .int .i64 0]) ∧ Fr0 w w' := by
  have h0 := h.fr0 ((Fr0.refl w).alloc (.cells #[.int .i64 0, .int .i64 0, .int .i64 0] 49))
  have HT := Lib.hid (lthere_any h0)
  rw [hm] at HT
  clear h h0 hm
  go_enter Try.func22, Try.ntmps22
  go_wp2_with (go_at_call 26; refine (HT.out).mono ?_; rintro e w' ⟨rfl, rfl⟩)
  have b := Blk.new w #[.int .i64 0, .int .i64 0, .int .i64 0] 49
  exact bodyPost_ret (v := .agg #[.int .i64 0, .int .i64 0, .int .i64 0]) (results_cell_row rfl _ _ w.heap.size 49 #[.int .i64 0, .int .i64 0, .int .i64 0] (0, 0) _ rfl b Try.underlying49 rfl (by kernel_rfl)) rfl ⟨rfl, (Fr0.refl w).alloc _⟩
theorem lmeter_nil (w : World) : Calls Try.prog 22 #[.pointer none] w fun e w' => e = .returned (.agg #[.int .i64 0, .int .i64 0, .int .i64 0]) ∧ Fr0 w w' := by
  have HT := Lib.hid (lthere_nil (w.alloc (.cells #[.int .i64 0, .int .i64 0, .int .i64 0] 49)))
  go_enter Try.func22, Try.ntmps22
  go_wp2_with (go_at_call 26; refine (HT.out).mono ?_; rintro e w' ⟨rfl, rfl⟩)
  have b := Blk.new w #[.int .i64 0, .int .i64 0, .int .i64 0] 49
  exact bodyPost_ret (v := .agg #[.int .i64 0, .int .i64 0, .int .i64 0]) (results_cell_row rfl _ _ w.heap.size 49 #[.int .i64 0, .int .i64 0, .int .i64 0] (0, 0) _ rfl b Try.underlying49 rfl (by kernel_rfl)) rfl ⟨rfl, (Fr0.refl w).alloc _⟩
theorem lk_size (s : Lk) (hk : s.key.length = 48) : (lkC s).toArray.size = 60 := by simp [lkC, lkT, byts, hk]
theorem lk_one (s : Lk) : (lkC s).toArray.all (·.oneCell') = true := by
  rw [List.all_toArray, List.all_eq_true]
  intro x hx
  simp only [lkC, List.mem_cons, List.mem_append] at hx
  rcases hx with rfl | hx | hx
  · rfl
  · exact byts_one _ _ hx
  · simp only [lkT, List.mem_cons, List.not_mem_nil, or_false] at hx
    rcases hx with rfl | rfl | rfl | rfl | rfl | rfl | rfl | rfl | rfl | rfl | rfl <;> rfl
theorem lcopy_nil (w : World) : Calls Try.prog 18 #[.pointer none] w fun e w' => e = .returned (.pointer none) ∧ Fr0 w w' := by
  go_enter Try.func18, Try.ntmps18
  go_wp2_with fail
  go_ret
  exact ⟨rfl, Fr0.refl w⟩
/-- A link of noughts. -/
def zLk : Lk := ⟨false, List.replicate 48 0, false, 0, 0, false, 0, 0, 0, 0, false, 0, 0⟩
theorem zlk_run (W : World) : (Instr.alloc 64 true (.tuple #[])).run Try.prog W = .ok (.pointer (some ⟨W.heap.size, 0, none⟩)) (W.alloc (.cells (lkC zLk).toArray 64)) := by kernel_rfl
set_option maxHeartbeats 1000000 in
theorem lcopy_any {p : Nat} {s : Lk} {w : World} (h : LkV w p s) : Calls Try.prog 18 #[.pointer (some ⟨p, 0, none⟩)] w fun e w' => ∃ q, e = .returned (.pointer (some ⟨q, 0, none⟩)) ∧ LkV w' q s ∧ w.heap.size ≤ q ∧ Fr0 w w' := by
  have HB := Lib.hid h.blk
  have HL := Lib.hid h.len
  have HS := Lib.hid (show (Try.prog.info? 64).map (·.size) = some (lkC s).toArray.size by rw [lk_size s h.len]; kernel_rfl)
  have HZ := Lib.hid (show (lkC zLk).toArray.size = (lkC s).toArray.size by rw [lk_size s h.len]; rfl)
  have HRUN := Lib.hid (fun W => zlk_run W)
  have h1 := lk_one s
  obtain ⟨cs, hcs⟩ : ∃ c, c = (lkC s).toArray := ⟨_, rfl⟩
  rw [← hcs] at HB HS HZ h1
  have HCS := Lib.hid hcs
  obtain ⟨z, hz⟩ : ∃ z, z = (lkC zLk).toArray := ⟨_, rfl⟩
  rw [← hz] at HRUN HZ
  clear h hcs hz
  go_enter Try.func18, Try.ntmps18
  go_wp2_with (first
    | (have _q := X1; refine list_store_blk rfl 64 _ _ rfl g1 cs rfl rfl 64 z X1.out HS.out HZ.out h1 ?_; intro w2 hB hF; have C2 := Lib.hid hB; have F2 := Lib.hid (Fr0.new F1.out hF L1.out); clear hB hF)
    | (have _q := HB; refine list_alloc_blk rfl 64 rfl z HRUN.out ?_; intro g1 w1 hB hF hl; have X1 := Lib.hid hB; have F1 := Lib.hid hF; have L1 := Lib.hid hl; clear hB hF hl)
    | (refine list_load_blk rfl 64 _ rfl p rfl 64 cs HB.out _ Try.underlying64 rfl HS.out ?_))
  go_ret
  exact ⟨_, rfl, ⟨by rw [← HCS.out]; exact C2.out, HL.out⟩, L1.out, F2.out⟩
set_option maxHeartbeats 1000000 in
theorem lnew_bad {key : List UInt8} {dn : Bool} {n : Nat} {addr : Int} {w : World} (hn : n < 18446744073709551616) (h : 9223372036854775808 < n ∨ ¬ (0 ≤ addr ∧ addr ≤ 65535)) :
    Calls Try.prog 9 #[.agg (byts key).toArray, .bool dn, .int .u64 (n : Int), .int .i64 addr] w fun e w' => e = .returned (.tuple #[.pointer none, .int .i64 2]) ∧ Fr0 w w' := by
  have HP := Lib.hid (fun W => place_any addr W)
  obtain ⟨ck, hck⟩ : ∃ c, c = (byts key).toArray := ⟨_, rfl⟩
  rw [← hck]
  have F := Lib.hid ((Fr0.refl w).alloc (.cells ck 25))
  by_cases h1 : 9223372036854775808 < n
  · have t1 : decide ((9223372036854775808 : Int) < (n : Int)) = true := decide_eq_true (by omega)
    clear h h1 hn hck
    go_enter Try.func9, Try.ntmps9
    go_wp2_with fail
    go_ret2
    exact ⟨rfl, F.out⟩
  · have t1 : decide ((9223372036854775808 : Int) < (n : Int)) = false := decide_eq_false (by omega)
    rw [decide_eq_false (h.resolve_left h1)] at HP
    clear h h1 hn hck
    go_enter Try.func9, Try.ntmps9
    go_wp2_with (go_at_call 25; refine (HP.out _).mono ?_; rintro e w' ⟨rfl, rfl⟩)
    go_ret2
    exact ⟨rfl, F.out⟩
set_option maxHeartbeats 1000000 in
set_option maxRecDepth 100000 in
theorem lnew_good {key : List UInt8} {dn : Bool} {n : Nat} {addr : Int} {w : World} (hk : key.length = 48) (hn : n ≤ 9223372036854775808) (ha : 0 ≤ addr ∧ addr ≤ 65535) :
    Calls Try.prog 9 #[.agg (byts key).toArray, .bool dn, .int .u64 (n : Int), .int .i64 addr] w fun e w' => ∃ p, e = .returned (.tuple #[.pointer (some ⟨p, 0, none⟩), .int .i64 0]) ∧ LkV w' p (newLk key dn n addr) ∧ w.heap.size ≤ p ∧ Fr0 w w' := by
  have HP := Lib.hid (fun W => place_any addr W)
  rw [decide_eq_true ha] at HP
  have HBT := Lib.hid (link_built hk dn n addr)
  have HCK := Lib.hid (show (Try.prog.info? 25).map (·.size) = some (byts key).toArray.size by rw [show (byts key).toArray.size = 48 by simp [byts, hk]]; kernel_rfl)
  have HKL := Lib.hid hk
  have K := Lib.hid (Blk.new w (byts key).toArray 25)
  obtain ⟨ck, hck⟩ : ∃ c, c = (byts key).toArray := ⟨_, rfl⟩
  rw [← hck] at HBT HCK K ⊢
  have F := Lib.hid ((Fr0.refl w).alloc (.cells ck 25))
  have t1 : decide ((9223372036854775808 : Int) < (n : Int)) = false := decide_eq_false (by omega)
  obtain ⟨cs, hcs⟩ : ∃ c, c = (lkC (newLk key dn n addr)).toArray := ⟨_, rfl⟩
  rw [← hcs] at HBT
  have HCS := Lib.hid hcs
  clear hn hck hk ha hcs
  go_enter Try.func9, Try.ntmps9
  go_wp2_with (first
    | (go_at_call 25; refine (HP.out _).mono ?_; rintro e w' ⟨rfl, rfl⟩)
    | (refine list_build rfl 64 _ rfl cs (by simp [Act.eval, Act.put]; exact HBT.out) ?_)
    | (refine list_load_blk rfl 25 _ rfl w.heap.size rfl 25 ck K.out _ Try.underlying25 rfl HCK.out ?_))
  go_ret2
  exact ⟨_, rfl, ⟨by rw [← HCS.out]; have h := Blk.new (w.alloc (.cells ck 25)) cs 64; rw [World.size_alloc] at h; exact h, HKL.out⟩, by simp, (F.out).alloc _⟩
end Go.Proofs.Ytgcjbbliaelkcaa
