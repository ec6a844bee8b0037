/- The sender's small functions: step, New, Clone, Set, Now, Base, Newest, Sent, Copy, Heard. Conditions stand in the statements. -/
import Derived.Test.YtomdlfeaecknfaaOut
import Derived.Test.YtomdlfeaecknfaaApp
import Derived.Deep.RegionHeldLaw
import Derived.Deep.DrawnRows
import Derived.Lib.ConvBytes
namespace Go.Proofs.Ytomdlfeaecknfaa
open Go.RowKit

theorem quiet_left {P : Program} {f : FuncId} {args : Array Value} {w : World} {n : Nat} {v : Value}
    (h : Calls P f args (w.drewN n) fun e w' => e = .returned v ∧ w.drewN n = w') : Calls P f args (w.drewN n) fun e w'' => e = .returned v ∧ ∃ m, w'' = w.drewN m :=
  h.mono fun _ _ ⟨he, hm⟩ => ⟨he, n, hm.symm⟩

theorem bang_cases (s : ByteArray) : (bang s = false ∧ s.size = 0) ∨ (∃ h : 0 < s.size, bang s = decide ((s[0]'h).toNat = 33)) := by
  by_cases h : 0 < s.size
  · refine .inr ⟨h, ?_⟩
    unfold bang
    have e : s.data.getD 0 0 = s[0]'h := by simp [Array.getD, ByteArray.getElem_eq_getElem_data]; rw [dif_pos h]
    rw [e]
    simp [h]
    rw [Bool.eq_iff_iff]
    simp [← UInt8.toNat_inj]
  · exact .inl ⟨by simp [bang, h], by omega⟩

/-- '[]byte(s)' of a text, with its row's type. -/
theorem conv_strT {P : Program} (w : World) (src dst e : TypeId) (hs : P.underlying src = some .string) (hd : P.underlying dst = some (.slice e)) (he : P.underlying e = some (.int .u8)) (s : ByteArray) (hsz : s.size ≤ 1000000) :
    ∃ (W : World) (c : Nat), (convert src dst (.string s)).run P w = .ok (.slice (some ⟨w.heap.size, 0, none⟩) s.data.toList.length c) W ∧ RdB W (.slice (some ⟨w.heap.size, 0, none⟩) s.data.toList.length c) s.data.toList ∧ Fr0 w W ∧ TyB W (.slice (some ⟨w.heap.size, 0, none⟩) s.data.toList.length c) e := by
  have hl : s.data.toList.length = s.size := by rw [Array.length_toList]; rfl
  refine ⟨Lib.bytesWorld w e s, grownCap w s.size 0 e, ?_, ?_, fr0_bytesWorld w e s, ?_⟩
  · rw [hl]; exact Lib.run_convert_string_bytes w src dst e s hs hd he
  · have := rdb_bytesWorld w e s hsz
    rw [hl]; exact this
  · intro g hg
    cases hg
    exact ⟨_, _, Lib.bytesWorld_at_new w e s⟩

set_option maxHeartbeats 400000 in
theorem diff_any (a b : ByteArray) (w : World) (ha : a.size ≤ 100000) (hb : b.size ≤ 100000) : Calls Try.prog 24 #[.string a, .string b] w fun e w' => Fr0 w w' ∧
    ((bang a = false ∧ bang b = false ∧ ∃ A c, e = .returned (.tuple #[.slice A (diffT a b).length c, .int .i64 0]) ∧ RdB w' (.slice A (diffT a b).length c) (diffT a b) ∧ TyB w' (.slice A (diffT a b).length c) 5) ∨ ((bang a = true ∨ bang b = true) ∧ e = .returned (.tuple #[.slice none 0 0, .int .i64 2]))) := by
  obtain ⟨W, c, hcv, hr, hf, hty⟩ := conv_strT (P := Try.prog) w 9 35 5 Try.underlying9 Try.underlying35 Try.underlying5 (a ++ ⟨#[62]⟩ ++ b) (by have := diffT_len a b; rw [show (a ++ ⟨#[62]⟩ ++ b).size = (diffT a b).length from by unfold diffT; rw [Array.length_toList]; rfl]; omega)
  rw [show (a ++ ⟨#[62]⟩ ++ b).data.toList = diffT a b from rfl] at hcv hr hty
  have H := Lib.hid (And.intro (And.intro hr hty) hf)
  clear hr hf hty
  rcases bang_cases a with ⟨ha0, ha1⟩ | ⟨ha1, ha0⟩
  · have HA := Lib.hid ha0
    clear ha0
    rcases bang_cases b with ⟨hb0, hb1⟩ | ⟨hb1, hb0⟩
    · have HB := Lib.hid hb0
      clear hb0
      go_enter Try.func24, Try.ntmps24
      go_wp2
      go_ret2
      exact ⟨(H.out).2, .inl ⟨HA.out, HB.out, _, _, rfl, (H.out).1.1, (H.out).1.2⟩⟩
    · obtain ⟨x, hx⟩ : ∃ x, x = b[0] := ⟨_, rfl⟩
      rw [← hx] at hb0
      by_cases h33 : x.toNat = 33
      · have HB := Lib.hid (hb0.trans (decide_eq_true h33))
        have q1 : ((x.toNat : Int) == 33) = true := by rw [h33]; rfl
        have q2 : (x.toNat == 33) = true := by rw [h33]; rfl
        have q3 : (x == 33) = true := by rw [beq_iff_eq]; exact UInt8.toNat_inj.1 h33
        clear hb0 h33
        subst hx
        go_enter Try.func24, Try.ntmps24
        go_wp2
        go_ret2
        exact ⟨Fr0.refl _, .inr ⟨.inr HB.out, rfl⟩⟩
      · have HB := Lib.hid (hb0.trans (decide_eq_false h33))
        have q1 : ((x.toNat : Int) == 33) = false := by simp; omega
        have q2 : (x.toNat == 33) = false := by simpa using h33
        have q3 : (x == 33) = false := by rw [beq_eq_false_iff_ne]; intro e; exact h33 (by rw [e]; rfl)
        clear hb0 h33
        subst hx
        go_enter Try.func24, Try.ntmps24
        go_wp2
        go_ret2
        exact ⟨(H.out).2, .inl ⟨HA.out, HB.out, _, _, rfl, (H.out).1.1, (H.out).1.2⟩⟩
  · obtain ⟨y, hy⟩ : ∃ y, y = a[0] := ⟨_, rfl⟩
    rw [← hy] at ha0
    by_cases h33 : y.toNat = 33
    · have HA := Lib.hid (ha0.trans (decide_eq_true h33))
      have r1 : ((y.toNat : Int) == 33) = true := by rw [h33]; rfl
      have r2 : (y.toNat == 33) = true := by rw [h33]; rfl
      have r3 : (y == 33) = true := by rw [beq_iff_eq]; exact UInt8.toNat_inj.1 h33
      clear ha0 h33
      subst hy
      go_enter Try.func24, Try.ntmps24
      go_wp2
      go_ret2
      exact ⟨Fr0.refl _, .inr ⟨.inl HA.out, rfl⟩⟩
    · have HA := Lib.hid (ha0.trans (decide_eq_false h33))
      have r1 : ((y.toNat : Int) == 33) = false := by simp; omega
      have r2 : (y.toNat == 33) = false := by simpa using h33
      have r3 : (y == 33) = false := by rw [beq_eq_false_iff_ne]; intro e; exact h33 (by rw [e]; rfl)
      clear ha0 h33
      subst hy
      rcases bang_cases b with ⟨hb0, hb1⟩ | ⟨hb1, hb0⟩
      · have HB := Lib.hid hb0
        clear hb0
        go_enter Try.func24, Try.ntmps24
        go_wp2
        go_ret2
        exact ⟨(H.out).2, .inl ⟨HA.out, HB.out, _, _, rfl, (H.out).1.1, (H.out).1.2⟩⟩
      · obtain ⟨x, hx⟩ : ∃ x, x = b[0] := ⟨_, rfl⟩
        rw [← hx] at hb0
        by_cases h33 : x.toNat = 33
        · have HB := Lib.hid (hb0.trans (decide_eq_true h33))
          have q1 : ((x.toNat : Int) == 33) = true := by rw [h33]; rfl
          have q2 : (x.toNat == 33) = true := by rw [h33]; rfl
          have q3 : (x == 33) = true := by rw [beq_iff_eq]; exact UInt8.toNat_inj.1 h33
          clear hb0 h33
          subst hx
          go_enter Try.func24, Try.ntmps24
          go_wp2
          go_ret2
          exact ⟨Fr0.refl _, .inr ⟨.inr HB.out, rfl⟩⟩
        · have HB := Lib.hid (hb0.trans (decide_eq_false h33))
          have q1 : ((x.toNat : Int) == 33) = false := by simp; omega
          have q2 : (x.toNat == 33) = false := by simpa using h33
          have q3 : (x == 33) = false := by rw [beq_eq_false_iff_ne]; intro e; exact h33 (by rw [e]; rfl)
          clear hb0 h33
          subst hx
          go_enter Try.func24, Try.ntmps24
          go_wp2
          go_ret2
          exact ⟨(H.out).2, .inl ⟨HA.out, HB.out, _, _, rfl, (H.out).1.1, (H.out).1.2⟩⟩
theorem diffFn : DiffFn (.func (.func 24) #[] #[]) := ⟨_, rfl, fun _ _ => by kernel_rfl, fun a b w ha hb => diff_any a b w ha hb⟩

theorem texts1_any (a b : ByteArray) (w : World) : Calls Try.prog 23 #[.string a, .string b] w fun e w' => e = .returned (.bool (decide (a = b))) ∧ w = w' := by
  by_cases h : a = b
  · have q := toList_beq_true h
    have D := Lib.hid (decide_eq_true h)
    subst h
    go_enter Try.func23, Try.ntmps23
    go_wp2
    go_ret
    exact ⟨rfl, rfl⟩
  · have q := toList_beq_false h
    have D := Lib.hid (decide_eq_false h)
    clear h
    go_enter Try.func23, Try.ntmps23
    go_wp2
    go_ret
    exact ⟨by rw [D.out]; first | rfl | simp, rfl⟩
theorem sameFn : SameFn (.func (.func 23) #[] #[]) := ⟨_, rfl, fun _ _ => by kernel_rfl, fun a b w => texts1_any a b w⟩


set_option maxHeartbeats 1000000 in
theorem step_any {p : Nat} {fs fd : Value} {A : Option Addr} {c : Nat} {o : OutD} {w : World} (hd : DiffFn fd) (h : OutV w p fs fd A c o) (x : Snt) (to : ByteArray) (hx : x.s.size ≤ 100000) (ht : to.size ≤ 100000) :
    Calls Try.prog 34 #[.pointer (some ⟨p, 0, none⟩), .agg #[.int .i64 x.n, .string x.s, .bool x.told, .int .i64 x.at_], .string to] w fun e w' =>
      ∃ A n c, e = .returned (.tuple #[.slice A n c, .bool (okStep x.s to)]) ∧ Fr0 w w' ∧ (okStep x.s to = true → n = (diffT x.s to).length ∧ RdB w' (.slice A n c) (diffT x.s to) ∧ TyB w' (.slice A n c) 5) := by
  obtain ⟨fn, rfl, hbody, hcall⟩ := hd
  have BP := Lib.hid (h.blk.fr0 ((Fr0.refl w).alloc (.cells #[.int .i64 x.n, .string x.s, .bool x.told, .int .i64 x.at_] 64)))
  have BX := Lib.hid (Blk.new w #[.int .i64 x.n, .string x.s, .bool x.told, .int .i64 x.at_] 64)
  have Q := Lib.hid ((Fr0.refl (w.alloc (.cells #[.int .i64 x.n, .string x.s, .bool x.told, .int .i64 x.at_] 64))).drew)
  have hlen := diffT_len x.s to
  have p0 := h.blk.lt
  have HOK := Lib.hid (show okStep x.s to = (!bang x.s && !bang to && decide (x.s.size + 1 + to.size ≤ 65496)) from rfl)
  obtain ⟨ok, hok⟩ : ∃ ok, ok = okStep x.s to := ⟨_, rfl⟩
  rw [← hok] at HOK ⊢
  by_cases hb : bang x.s = false ∧ bang to = false
  · have HC := Lib.hid (fun w' => (hcall x.s to w' hx ht).mono (R' := fun e w'' => Fr0 w' w'' ∧ ∃ A c, e = .returned (.tuple #[.slice A (diffT x.s to).length c, .int .i64 0]) ∧ RdB w'' (.slice A (diffT x.s to).length c) (diffT x.s to) ∧ TyB w'' (.slice A (diffT x.s to).length c) 5) (by
      rintro e w'' ⟨hf, ⟨_, _, h⟩ | ⟨h, _⟩⟩
      · exact ⟨hf, h⟩
      · rw [hb.1, hb.2] at h; simp at h))
    obtain ⟨D, hD⟩ : ∃ D, D = diffT x.s to := ⟨_, rfl⟩
    rw [← hD] at HC hlen ⊢
    by_cases hle : x.s.size + 1 + to.size ≤ 65496
    · have q0 : decide ((D.length : Int) ≤ 65496) = true := by simp; omega
      have q1 : decide (D.length ≤ 65496) = true := by simp; omega
      have HO := Lib.hid (show ok = true by rw [HOK.out, hb.1, hb.2, decide_eq_true hle]; rfl)
      clear h hcall hok hlen hb hle hD
      go_enter Try.func34, Try.ntmps34
      go_wp2
      go_region_held_law (fun w' => w'.cell? ⟨p, 1, none⟩ = some (.func (.func fn) #[] #[]) ∧ w'.cell? ⟨w.heap.size, 1, none⟩ = some (.string x.s)) (first | exact ⟨((BP.out).fr0 Q.out).cell 1 rfl, ((BX.out).fr0 Q.out).cell 1 rfl⟩) ((refine (HC.out _).mono ?_; rintro e w7 ⟨hf7, A7, c7, rfl, hr, hy⟩; replace Q := Lib.hid ((Q.out).trans hf7); have R := Lib.hid (And.intro hr hy); clear hf7 hr hy))
      go_wp2
      go_ret2
      rw [HO.out]
      exact ⟨_, _, _, rfl, Fr0.trans ((Fr0.refl w).alloc _) Q.out, fun _ => ⟨rfl, (R.out).1, (R.out).2⟩⟩
    · have q0 : decide ((D.length : Int) ≤ 65496) = false := by simp; omega
      have q1 : decide (D.length ≤ 65496) = false := by simp; omega
      have HO := Lib.hid (show ok = false by rw [HOK.out, hb.1, hb.2, decide_eq_false hle]; rfl)
      clear h hcall hok hlen hb hle hD
      go_enter Try.func34, Try.ntmps34
      go_wp2
      go_region_held_law (fun w' => w'.cell? ⟨p, 1, none⟩ = some (.func (.func fn) #[] #[]) ∧ w'.cell? ⟨w.heap.size, 1, none⟩ = some (.string x.s)) (first | exact ⟨((BP.out).fr0 Q.out).cell 1 rfl, ((BX.out).fr0 Q.out).cell 1 rfl⟩) ((refine (HC.out _).mono ?_; rintro e w7 ⟨hf7, A7, c7, rfl, hr, hy⟩; replace Q := Lib.hid ((Q.out).trans hf7); have R := Lib.hid (And.intro hr hy); clear hf7 hr hy))
      go_wp2
      go_ret2
      rw [HO.out]
      exact ⟨_, _, _, rfl, Fr0.trans ((Fr0.refl w).alloc _) Q.out, fun h => by cases h⟩
  · have HC := Lib.hid (fun w' => (hcall x.s to w' hx ht).mono (R' := fun e w'' => Fr0 w' w'' ∧ e = .returned (.tuple #[.slice none 0 0, .int .i64 2])) (by
      rintro e w'' ⟨hf, ⟨h1, h2, _⟩ | ⟨_, h⟩⟩
      · exact absurd ⟨h1, h2⟩ hb
      · exact ⟨hf, h⟩))
    have HO := Lib.hid (show ok = false by
      rw [HOK.out]
      cases h1 : bang x.s with
      | true => rfl
      | false => cases h2 : bang to with
        | true => rfl
        | false => exact absurd ⟨h1, h2⟩ hb)
    clear h hcall hok hlen hb
    go_enter Try.func34, Try.ntmps34
    go_wp2
    go_region_held_law (fun w' => w'.cell? ⟨p, 1, none⟩ = some (.func (.func fn) #[] #[]) ∧ w'.cell? ⟨w.heap.size, 1, none⟩ = some (.string x.s)) (first | exact ⟨((BP.out).fr0 Q.out).cell 1 rfl, ((BX.out).fr0 Q.out).cell 1 rfl⟩) ((refine (HC.out _).mono ?_; rintro e w7 ⟨hf7, rfl⟩; replace Q := Lib.hid ((Q.out).trans hf7); clear hf7))
    go_wp2
    go_ret2
    rw [HO.out]
    exact ⟨_, _, _, rfl, Fr0.trans ((Fr0.refl w).alloc _) Q.out, fun h => by cases h⟩

end Go.Proofs.Ytomdlfeaecknfaa
