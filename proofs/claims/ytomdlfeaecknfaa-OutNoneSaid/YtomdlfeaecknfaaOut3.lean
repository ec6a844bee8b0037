/- The sender's New, Set, Now, Base, Newest, Sent, Copy, Heard; Clone and IndexFunc of what is sent. Conditions stand in the statements. -/
import Derived.Test.YtomdlfeaecknfaaOut2
import Derived.Laws.EntriesVeiled
namespace Go.Proofs.Ytomdlfeaecknfaa
open Go.RowKit

section
variable {w w' : World} {p : Nat} {fs fd : Value} {A : Option Addr} {c : Nat} {o : OutD}
theorem OutV.setNow (h : OutV w p fs fd A c o) (s : ByteArray) : OutV (w.setCell ⟨p, 2, none⟩ (.string s)) p fs fd A c (withNow o s) :=
  ⟨h.blk.set 2 _, h.rd.frT h.ty ((Fr1.refl p w).set 2 _) h.blk (by decide), h.ty.fr1 ((Fr1.refl p w).set 2 _) h.blk (by decide)⟩
/-- Another slice of sent ones, of the call's own. -/
theorem OutV.setAll (h : OutV w p fs fd A c o) {base : Nat} {A' : Option Addr} {c' n : Nat} {l : List Snt} (hn : l.length = n) (hown : w.ownsRow base 64 4 (.slice A' n c') n (flat sntC l)) : OutV (w.setCell ⟨p, 3, none⟩ (.slice A' n c')) p fs fd A' c' (withAll o l) := by
  subst hn
  have hne := own_ne hown h.blk (by decide)
  have own2 := own_fr hown ((Fr1.refl p w).set 3 (.slice A' l.length c')) (fun g hg e => hne g hg e)
  exact ⟨h.blk.set 3 _, Rd.of_own own2, TyB.of_own own2⟩
/-- The last cells: the Ack, told, the time. -/
theorem OutV.setEnd (h : OutV w p fs fd A c o) (a : Int) (n : Int) : OutV (((w.setCell ⟨p, 4, none⟩ (.int .i64 a)).setCell ⟨p, 5, none⟩ (.bool true)).setCell ⟨p, 6, none⟩ (.int .i64 n)) p fs fd A c ⟨o.now, o.all, a, true, n⟩ :=
  ⟨((h.blk.set 4 _).set 5 _).set 6 _, h.rd.frT h.ty ((((Fr1.refl p w).set 4 _).set 5 _).set 6 _) h.blk (by decide), h.ty.fr1 ((((Fr1.refl p w).set 4 _).set 5 _).set 6 _) h.blk (by decide)⟩
end

set_option maxHeartbeats 400000 in
theorem oset_any {p : Nat} {fs fd : Value} {A : Option Addr} {c : Nat} {o : OutD} {w : World} (h : OutV w p fs fd A c o) (hn : 0 < o.all.length) (s : ByteArray) :
    Calls Try.prog 11 #[.pointer (some ⟨p, 0, none⟩), .string s] w fun e w' => e = .returned (.int .i64 0) ∧ Fr1 p w w' ∧ OutV w' p fs fd A c (withNow o s) := by
  have HT := Lib.hid (there_yes h.blk hn)
  have c2 : w.cell? ⟨p, 2, none⟩ = some (.string o.now) := h.blk.cell 2 rfl
  have f2 : w.frozen? ⟨p, 2, none⟩ = false := h.blk.free 2
  have H := Lib.hid h
  clear h
  go_enter Try.func11, Try.ntmps11
  go_wp2_with (go_at_call 25; refine (HT.out).mono ?_; rintro e w' ⟨rfl, rfl⟩)
  go_ret
  exact ⟨rfl, (Fr1.refl p w).set 2 _, (H.out).setNow s⟩

set_option maxHeartbeats 400000 in
theorem onow_any {p : Nat} {fs fd : Value} {A : Option Addr} {c : Nat} {o : OutD} {w : World} (h : OutV w p fs fd A c o) (hn : 0 < o.all.length) :
    Calls Try.prog 22 #[.pointer (some ⟨p, 0, none⟩)] w fun e w' => e = .returned (.string o.now) ∧ w = w' := by
  have HT := Lib.hid (there_yes h.blk hn)
  have c2 : w.cell? ⟨p, 2, none⟩ = some (.string o.now) := h.blk.cell 2 rfl
  clear h
  go_enter Try.func22, Try.ntmps22
  go_wp2_with (go_at_call 25; refine (HT.out).mono ?_; rintro e w' ⟨rfl, rfl⟩)
  go_ret
  exact ⟨rfl, rfl⟩

set_option maxHeartbeats 400000 in
theorem osent_any {p : Nat} {fs fd : Value} {A : Option Addr} {c : Nat} {o : OutD} {w : World} (h : OutV w p fs fd A c o) (hn : 0 < o.all.length) :
    Calls Try.prog 16 #[.pointer (some ⟨p, 0, none⟩)] w fun e w' => e = .returned (.int .i64 ((o.all.length : Int) - 1)) ∧ w = w' := by
  have HT := Lib.hid (there_yes h.blk hn)
  have l63 := h.rd.le63
  have c2 : w.cell? ⟨p, 3, none⟩ = some (.slice A o.all.length c) := h.blk.cell 3 rfl
  clear h
  go_enter Try.func16, Try.ntmps16
  go_wp2_with (go_at_call 25; refine (HT.out).mono ?_; rintro e w' ⟨rfl, rfl⟩)
  go_ret
  exact ⟨rfl, rfl⟩

theorem base_eq {l : List Snt} (h : 0 < l.length) : baseS l = l[0] := by unfold baseS; rw [List.getD_eq_getElem?_getD, List.getElem?_eq_getElem h]; rfl
theorem last_eq {l : List Snt} (h : 0 < l.length) : lastS l = l[l.length - 1] := by unfold lastS; rw [List.getD_eq_getElem?_getD, List.getElem?_eq_getElem (by omega)]; rfl

set_option maxHeartbeats 400000 in
theorem obase_any {p : Nat} {fs fd : Value} {A : Option Addr} {c : Nat} {o : OutD} {w : World} (h : OutV w p fs fd A c o) (hn : 0 < o.all.length) :
    Calls Try.prog 15 #[.pointer (some ⟨p, 0, none⟩)] w fun e w' => e = .returned (.tuple #[.int .i64 (baseS o.all).n, .string (baseS o.all).s]) ∧ ∃ n, w' = w.drewN n := by
  have HT := Lib.hid (there_yes h.blk hn)
  obtain ⟨g, off, rfl, hg, hc⟩ := h.addr hn
  have c2 : w.cell? ⟨p, 3, none⟩ = some (.slice (some ⟨g, off, none⟩) o.all.length c) := h.blk.cell 3 rfl
  obtain ⟨d0, d1, -, -⟩ := h.cellAt hn
  have l63 := h.rd.le63
  rw [← base_eq hn] at d0 d1
  obtain ⟨b, hb⟩ : ∃ b, b = baseS o.all := ⟨_, rfl⟩
  rw [← hb] at d0 d1 ⊢
  simp only [Nat.zero_mul, Nat.add_zero] at d0 d1
  obtain ⟨m, hm⟩ : ∃ m, m = o.all.length := ⟨_, rfl⟩
  rw [← hm] at c2 hn l63
  clear h hb hm
  go_enter Try.func15, Try.ntmps15
  go_wp2_with (go_at_call 25; refine (HT.out).mono ?_; rintro e w' ⟨rfl, rfl⟩)
  go_quiet (fail)
  go_wp2
  go_ret2
  exact ⟨rfl, _, rfl⟩

set_option maxHeartbeats 400000 in
theorem onewest_any {p : Nat} {fs fd : Value} {A : Option Addr} {c : Nat} {o : OutD} {w : World} (h : OutV w p fs fd A c o) (hn : 0 < o.all.length) :
    Calls Try.prog 14 #[.pointer (some ⟨p, 0, none⟩)] w fun e w' => e = .returned (.tuple #[.int .i64 (lastS o.all).n, .string (lastS o.all).s]) ∧ ∃ n, w' = w.drewN n := by
  have HT := Lib.hid (there_yes h.blk hn)
  obtain ⟨g, off, rfl, hg, hc⟩ := h.addr hn
  obtain ⟨d0, d1, -, -⟩ := h.cellAt (i := o.all.length - 1) (by omega)
  have HL := Lib.hid (fun n => last_any (h.fr0 ((Fr0.refl w).drewN n)) hn)
  rw [← last_eq hn] at d0 d1
  obtain ⟨b, hb⟩ : ∃ b, b = lastS o.all := ⟨_, rfl⟩
  rw [← hb] at d0 d1 ⊢
  obtain ⟨j, hj⟩ : ∃ j, j = o.all.length - 1 := ⟨_, rfl⟩
  rw [← hj] at d0 d1 HL
  clear h hb hj
  go_enter Try.func14, Try.ntmps14
  go_wp2_with (go_at_call 25; refine (HT.out).mono ?_; rintro e w' ⟨rfl, rfl⟩)
  go_quiet ((go_at_call 32; exact Calls.quiet_of (HL.out _)))
  go_wp2
  go_ret2
  exact ⟨rfl, _, rfl⟩

theorem infoSnt : (Try.prog.info? 64).map (fun i => (i.zero, i.size, i.bytes)) = some (some (.agg #[.int .i64 0, .string ⟨#[]⟩, .bool false, .int .i64 0]), 4, 40) := by kernel_rfl

set_option maxHeartbeats 400000 in
theorem clone_snt {sv : Value} {n : Nat} {xs : List Value} {w : World} (h : Rd w 4 sv n xs) (h1 : ∀ u ∈ xs, u.oneCell' = true) (hn : n ≤ 1000000) :
    Calls Try.prog 31 #[sv] w fun e w' => ∃ v, e = .returned v ∧ w'.ownsRow w.heap.size 64 4 v n xs ∧ Fr0 w w' := by
  obtain ⟨A, c, rfl, hnc, hcm, hnone⟩ := h.form
  obtain ⟨i0, hi, hz0, hz1, hz2⟩ := info_parts infoSnt
  have qT : ∀ (w : World) (a : Option Addr) (n c n' c' : Nat), (binOp .eql 59 (.slice a n c) (.slice none n' c')).run Try.prog w = .ok (.bool a.isNone) w := fun w a n c n' c' => Lib.run_eql_slice_nil w _ _ a n c n' c' Try.underlying59
  cases A with
  | none =>
    obtain rfl : c = 0 := hnone rfl
    obtain rfl : n = 0 := by omega
    have hx : xs = [] := List.eq_nil_of_length_eq_zero (by simpa using h.len)
    subst hx
    go_enter Try.func31, Try.ntmps31
    go_wp2
    go_ret
    exact ⟨_, rfl, World.ownsRow_nil _ _ _ _, Fr0.refl _⟩
  | some a =>
    have hlen := h.len
    have hown : (w.alloc (.cells #[] 64)).ownsRow w.heap.size 64 4 (.slice (some ⟨w.heap.size, 0, none⟩) 0 0) 0 [] := World.ownsRow_made w #[] 0 (Nat.le_refl _) (by simp [maxLen]) rfl
    have hnews : ∀ j u, xs[j]? = some u → (w.alloc (.cells #[] 64)).cell? (a.add j) = some u := (h.fr0 (Fr.alloc (Fr0.refl w) (.cells #[] 64))).news
    clear h
    go_enter Try.func31, Try.ntmps31
    go_wp2_with (at_builtin; refine wpList_append_own _ rfl _ _ 59 rfl w.heap.size 64 i0 (.agg #[.int .i64 0, .string ⟨#[]⟩, .bool false, .int .i64 0]) 4 40 Try.underlying59 hi hz0 hz1 hz2 rfl (by decide) _ _ _ rfl hown a n c xs rfl hlen hnews h1 (by unfold maxLen; omega) (by omega) (by simp) ?_; intro v' w1 hown' hgrow _)
    go_ret
    refine ⟨_, rfl, ?_, ?_⟩
    · simpa using hown'
    · exact Fr.grown (Fr.alloc (Fr0.refl w) _) hgrow (fun k hk => .inr (by cases hk; exact Nat.le_refl _))

set_option maxHeartbeats 400000 in
theorem onew_any {fs fd : Value} (hs : SameFn fs) (hd : DiffFn fd) (s : ByteArray) (w : World) :
    Calls Try.prog 9 #[.agg #[fs, fd], .string s] w fun e w' => ∃ p A c, e = .returned (.pointer (some ⟨p, 0, none⟩)) ∧ OutV w' p fs fd A c (outNew s) ∧ w.heap.size ≤ p ∧ Fr0 w w' := by
  obtain ⟨f1, rfl, -, -⟩ := hs
  obtain ⟨f2, rfl, -, -⟩ := hd
  have qS : ∀ w : World, (binOp .eql 26 (.func (.func f1) #[] #[]) .nilFunc).run Try.prog w = .ok (.bool false) w := fun _ => by kernel_rfl
  have qD : ∀ w : World, (binOp .eql 27 (.func (.func f2) #[] #[]) .nilFunc).run Try.prog w = .ok (.bool false) w := fun _ => by kernel_rfl
  go_enter Try.func9, Try.ntmps9
  go_wp2
  go_ret
  have b1 := Blk.new (w.alloc (.cells #[.func (.func f1) #[] #[], .func (.func f2) #[] #[]] 29)) #[.int .i64 0, .string s, .bool false, .int .i64 0] 64
  have b2 := b1.alloc (.cells #[.func (.func f1) #[] #[], .func (.func f2) #[] #[], .string s, .slice (some ⟨w.heap.size + 1, 0, none⟩) 1 1, .int .i64 0, .bool false, .int .i64 0] 61)
  have b2' := b2
  simp only [show (w.alloc (.cells #[.func (.func f1) #[] #[], .func (.func f2) #[] #[]] 29)).heap.size = w.heap.size + 1 from by simp] at b2'
  refine ⟨w.heap.size + 1 + 1, some ⟨w.heap.size + 1, 0, none⟩, 1, rfl, ⟨?_, ?_, ?_⟩, by omega, by repeat (first | exact Fr0.refl _ | refine Fr.drew ?_ | refine Fr.alloc ?_ _)⟩
  · have := Blk.new ((w.alloc (.cells #[.func (.func f1) #[] #[], .func (.func f2) #[] #[]] 29)).alloc (.cells #[.int .i64 0, .string s, .bool false, .int .i64 0] 64)) #[.func (.func f1) #[] #[], .func (.func f2) #[] #[], .string s, .slice (some ⟨w.heap.size + 1, 0, none⟩) 1 1, .int .i64 0, .bool false, .int .i64 0] 61
    rw [show ((w.alloc (.cells #[.func (.func f1) #[] #[], .func (.func f2) #[] #[]] 29)).alloc (.cells #[.int .i64 0, .string s, .bool false, .int .i64 0] 64)).heap.size = w.heap.size + 1 + 1 from by simp] at this
    exact this
  · exact Rd.of_own (own_of_block (base := 0) (k := 1) (cap := 1) b2' (Nat.zero_le _) (by omega) (by simp [maxLen]) rfl)
  · intro g hg
    cases hg
    exact ⟨_, _, b2'⟩

set_option maxHeartbeats 400000 in
theorem ocopy_any {p : Nat} {fs fd : Value} {A : Option Addr} {c : Nat} {o : OutD} {w : World} (hs : SameFn fs) (hd : DiffFn fd) (h : OutV w p fs fd A c o) (hn : o.all.length ≤ 1000) :
    Calls Try.prog 21 #[.pointer (some ⟨p, 0, none⟩)] w fun e w' => ∃ q A' c', e = .returned (.pointer (some ⟨q, 0, none⟩)) ∧ OutV w' q fs fd A' c' o ∧ w.heap.size ≤ q ∧ Fr0 w w' := by
  have hb := h.blk
  have c0 : w.cell? ⟨p, 0, none⟩ = some fs := hb.cell 0 rfl
  have c1 : w.cell? ⟨p, 1, none⟩ = some fd := hb.cell 1 rfl
  have c2 : w.cell? ⟨p, 2, none⟩ = some (.string o.now) := hb.cell 2 rfl
  have c3 : w.cell? ⟨p, 3, none⟩ = some (.slice A o.all.length c) := hb.cell 3 rfl
  have c4 : w.cell? ⟨p, 4, none⟩ = some (.int .i64 o.ack) := hb.cell 4 rfl
  have c5 : w.cell? ⟨p, 5, none⟩ = some (.bool o.told) := hb.cell 5 rfl
  have c6 : w.cell? ⟨p, 6, none⟩ = some (.int .i64 o.at_) := hb.cell 6 rfl
  obtain ⟨f1, rfl, -, -⟩ := hs
  obtain ⟨f2, rfl, -, -⟩ := hd
  have H1 := Lib.hid (h.fr0 ((Fr0.refl w).alloc (.cells #[.func (.func f1) #[] #[], .func (.func f2) #[] #[], .string o.now, .slice A o.all.length c, .int .i64 o.ack, .bool o.told, .int .i64 o.at_] 61)))
  have B := Lib.hid (Blk.new w #[.func (.func f1) #[] #[], .func (.func f2) #[] #[], .string o.now, .slice A o.all.length c, .int .i64 o.ack, .bool o.told, .int .i64 o.at_] 61)
  have d3 : (w.alloc (.cells #[.func (.func f1) #[] #[], .func (.func f2) #[] #[], .string o.now, .slice A o.all.length c, .int .i64 o.ack, .bool o.told, .int .i64 o.at_] 61)).cell? ⟨p, 3, none⟩ = some (.slice A o.all.length c) := (H1.out).blk.cell 3 rfl
  have HC := Lib.hid (clone_snt (H1.out).rd (flat_mem sntC_one _) (by omega))
  have hp := hb.lt
  obtain ⟨k, hk⟩ : ∃ k, k = o.all.length := ⟨_, rfl⟩
  have HK := Lib.hid hk
  clear h hb
  go_enter Try.func21, Try.ntmps21
  go_wp2_with (go_at_call 31; refine (HC.out).mono ?_; rintro e w4 ⟨v, rfl, hown, hf⟩; obtain ⟨A4, c4', rfl, hnc4, -, -⟩ := own_form hown; have O := Lib.hid hown; have F := Lib.hid hf; have e3 : w4.cell? ⟨w.heap.size, 3, none⟩ = some (.slice A o.all.length c) := ((B.out).fr0 hf).cell 3 rfl; have f3 : w4.frozen? ⟨w.heap.size, 3, none⟩ = false := ((B.out).fr0 hf).free 3; clear hown hf)
  go_ret
  have hb4 := (B.out).fr0 F.out
  have hne := own_ne O.out hb4 (by decide)
  have own2 := own_fr O.out ((Fr1.refl w.heap.size w4).set 3 (.slice A4 o.all.length c4')) (fun g hg e => hne g hg e)
  exact ⟨w.heap.size, A4, c4', rfl, ⟨hb4.set 3 _, Rd.of_own own2, TyB.of_own own2⟩, Nat.le_refl _, Fr.setCell (p := ⟨w.heap.size, 3, none⟩) (Fr0.trans ((Fr0.refl w).alloc _) F.out) (.inr (Nat.le_refl _)) _⟩

/-- What a function value answers of a state that was told. -/
def SntFn (w : World) (fv : Value) (f : Snt → Bool) : Prop :=
  ∃ fn cap, fv = .func (.func fn) #[] cap ∧ (∀ (args : Array Value) (w1 : World), (callFunc fn args).run Try.prog w1 = .ok (.enter fn args) w1) ∧ ∀ (x : Snt) (w1 : World), Fr0 w w1 →
    Calls Try.prog fn (#[.agg #[.int .i64 x.n, .string x.s, .bool x.told, .int .i64 x.at_]] ++ cap) w1 fun e w2 => e = .returned (.bool (f x)) ∧ Fr0 w1 w2
def idxS (f : Snt → Bool) (l : List Snt) : Int := match l.findIdx? f with | some i => i | none => -1
theorem idxS_more {f : Snt → Bool} {l : List Snt} {k : Nat} (hk : k < l.length) (hno : ∀ x ∈ l.take k, f x = false) (h : f l[k] = false) : ∀ x ∈ l.take (k + 1), f x = false := by
  intro x hx
  rw [List.take_succ_eq_append_getElem hk] at hx
  rcases List.mem_append.1 hx with hx | hx
  · exact hno x hx
  · simp at hx; rw [hx]; exact h
theorem idxS_found {f : Snt → Bool} {l : List Snt} {k : Nat} (hk : k < l.length) (hno : ∀ x ∈ l.take k, f x = false) (h : f l[k] = true) : idxS f l = k := by
  have : l.findIdx? f = some k := by
    rw [List.findIdx?_eq_some_iff_getElem]
    refine ⟨hk, h, fun j hj => ?_⟩
    have := hno l[j] (by rw [List.mem_take_iff_getElem]; exact ⟨j, by omega, rfl⟩)
    simp [this]
  simp [idxS, this]
theorem idxS_none {f : Snt → Bool} {l : List Snt} (hno : ∀ x ∈ l.take l.length, f x = false) : idxS f l = -1 := by
  have : l.findIdx? f = none := by
    rw [List.findIdx?_eq_none_iff]
    intro x hx
    exact hno x (by simpa using hx)
  simp [idxS, this]

set_option maxHeartbeats 400000 in
theorem indexS_any {sv : Value} {f : Snt → Bool} {l : List Snt} {w : World} {fv : Value} (h : Rd w 4 sv l.length (flat sntC l)) (hf : SntFn w fv f) :
    Calls Try.prog 29 #[sv, fv] w fun e w' => e = .returned (.int .i64 (idxS f l)) ∧ Fr0 w w' := by
  obtain ⟨fn, cap, rfl, hbody, hcall⟩ := hf
  have hl63 := h.le63
  obtain ⟨A, c, rfl, hnc, _, _⟩ := h.form
  go_enter Try.func29, Try.ntmps29
  go_wp2_with fail
  go_loopw [8] (fun v8 wr => ∃ k : Nat, k ≤ l.length ∧ v8 = .int .i64 k ∧ Fr0 w wr ∧ Hid (∀ x ∈ l.take k, f x = false)) (fun v8 _ => l.length - (intOf v8).toNat)
  case atStart => exact ⟨0, Nat.zero_le _, rfl, Fr0.refl _, by intro x hx; simp at hx⟩
  case round =>
    obtain ⟨k, hk, rfl, hfr, hno⟩ := hrel
    by_cases hlt : k < l.length
    · have hr := h.fr0 hfr
      obtain ⟨g, off, c', hv, hic, hg, hc⟩ := hr.cellAt (i := k) (by omega)
      injection hv with hA _ hcc
      subst hA hcc
      have c0 := hc 0 _ (flat_at sntC_len l k hlt (j := 0) (by omega))
      have c1 := hc 1 _ (flat_at sntC_len l k hlt (j := 1) (by omega))
      have c2 := hc 2 _ (flat_at sntC_len l k hlt (j := 2) (by omega))
      have c3 := hc 3 _ (flat_at sntC_len l k hlt (j := 3) (by omega))
      simp only [Nat.add_zero] at c0
      clear hc
      have hC := hcall l[k] wr hfr
      have HC := Lib.hid hC
      clear hC hcall
      clear hr h
      go_wp2_with fail
      refine (HC.out).mono ?_
      rintro e w1 ⟨rfl, hw1⟩
      cases hfx : f l[k]
      · go_wp2_with fail
        go_roundw
        case rel => exact ⟨k + 1, by omega, by go_num, hfr.trans hw1, idxS_more hlt hno.out hfx⟩
        case measure => simp [intOf]; omega
      · go_wp2_with fail
        go_ret
        exact ⟨by rw [idxS_found hlt hno.out hfx]; rfl, hfr.trans hw1⟩
    · have : k = l.length := by omega
      subst this
      go_wp2_with fail
      go_ret
      exact ⟨by rw [idxS_none hno.out]; rfl, hfr⟩

set_option maxHeartbeats 400000 in
theorem heard1_fn {px : Nat} {w : World} {n : Int} (hx : Blk w px #[.int .i64 n] 3) :
    SntFn w (.func (.func 30) #[] #[.pointer (some ⟨px, 0, none⟩)]) (fun h => h.n == n) := by
  refine ⟨_, _, rfl, fun args w1 => by kernel_rfl, fun h w1 hf => ?_⟩
  have c0 : w1.cell? ⟨px, 0, none⟩ = some (.int .i64 n) := (hx.fr0 hf).cell 0 rfl
  have hp1 := (hx.fr0 hf).lt
  clear hx
  simp only [List.append_toArray, List.nil_append, List.cons_append]
  go_enter Try.func30, Try.ntmps30
  go_wp2
  go_ret
  exact ⟨rfl, by repeat (first | exact Fr0.refl _ | refine Fr.drew ?_ | refine Fr.alloc ?_ _)⟩

end Go.Proofs.Ytomdlfeaecknfaa
