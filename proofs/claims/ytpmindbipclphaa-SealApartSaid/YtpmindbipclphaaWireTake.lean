/- The reader's take. Conditions stand in the statements. -/
import Derived.Test.YtpmindbipclphaaWireOpen
namespace Go.Proofs.Ytpmindbipclphaa
open Go.RowKit

/-- A reader, its slice named. -/
structure RdrV (w : World) (p : Nat) (A : Option Addr) (c : Nat) (d : List UInt8) (e : Int) : Prop where
  blk : Blk w p #[.slice A d.length c, .int .i64 e] 79
  rd : RdB w (.slice A d.length c) d
  ty : TyB w (.slice A d.length c) 5

section
variable {w w' : World} {p b : Nat} {A : Option Addr} {c : Nat} {d : List UInt8} {e : Int}
theorem RdrV.fr0 (h : RdrV w p A c d e) (hf : Fr0 w w') : RdrV w' p A c d e := ⟨h.blk.fr0 hf, h.rd.fr0 hf, h.ty.fr0 hf⟩
theorem RdrV.frT (h : RdrV w p A c d e) {vs : Array Value} {t : TypeId} (hb : Blk w b vs t) (ht : 79 ≠ t) (ht2 : 5 ≠ t) (hf : Fr1 b w w') : RdrV w' p A c d e :=
  ⟨h.blk.fr1 hf (h.blk.ne hb ht), Rd.frT h.rd h.ty hf hb ht2, h.ty.fr1 hf hb ht2⟩
end

theorem slice_to {P : Program} {T e : TypeId} (ht : P.underlying T = some (.slice e)) (hs : ∀ w, (sizeOf e).run P w = .ok 1 w) {A : Option Addr} {n c k : Nat} (hk : k ≤ c) (w : World) :
    (Instr.slice T (.slice A n c) none (some (.int .i64 (k : Int))) none).run P w = .ok (.slice A k c) w := by
  have hel : P.elem T = e := by simp [Program.elem, ht]
  rw [run_slice_h (w := w) T A n c (by rw [hel]; exact ht) .i64 (k : Int) (by omega) (by omega), hel, hs w]
  simp [Result.andThen, sliced, Addr.add]

set_option maxHeartbeats 400000 in
theorem take_nil (fv : Value) (w : World) :
    Calls Try.prog 43 #[.pointer none, fv] w fun e w' => e = .returned (.slice none 0 0) ∧ w' = w := by
  go_enter Try.func43, Try.ntmps43
  go_wp2_with fail
  go_ret
  exact ⟨rfl, rfl⟩

set_option maxHeartbeats 400000 in
theorem take_err {p : Nat} {A : Option Addr} {c : Nat} {d : List UInt8} {er : Int} {w : World} (h : RdrV w p A c d er) (he : er ≠ 0) (fv : Value) :
    Calls Try.prog 43 #[.pointer (some ⟨p, 0, none⟩), fv] w fun e w' => e = .returned (.slice none 0 0) ∧ w' = w := by
  have c1 : w.cell? ⟨p, 1, none⟩ = some (.int .i64 er) := h.blk.cell 1 rfl
  have hb : (er != 0) = true := by simpa using he
  clear h he
  go_enter Try.func43, Try.ntmps43
  go_wp2_with fail
  go_ret
  exact ⟨rfl, rfl⟩

/-- What a step may do: it keeps the reader; G: what else it leaves. -/
structure StepFn (w : World) (p : Nat) (A : Option Addr) (c : Nat) (d : List UInt8) (fv : Value) (n : Nat) (er : Int) (G : World → Prop) : Prop where
  some_fn : ∃ fn recv cap, fv = .func (.func fn) recv cap ∧ (∀ (args : Array Value) (w1 : World), (callFunc fn args).run Try.prog w1 = .ok (.enter fn args) w1) ∧
    Calls Try.prog fn (recv ++ cap) w fun e w' => e = .returned (.tuple #[.int .i64 n, .int .i64 er]) ∧ G w'
  keeps : ∀ w', G w' → RdrV w' p A c d 0
  fits : er = 0 → n ≤ d.length

set_option maxHeartbeats 400000 in
theorem wtake_any {p : Nat} {A : Option Addr} {c : Nat} {d : List UInt8} {w : World} {fv : Value} {n : Nat} {er : Int} {G : World → Prop} (h : RdrV w p A c d 0) (hs : StepFn w p A c d fv n er G) :
    Calls Try.prog 43 #[.pointer (some ⟨p, 0, none⟩), fv] w fun e w' => ∃ w1 v, e = .returned v ∧ G w1 ∧ Fr1 p w1 w' ∧
      (er ≠ 0 → v = .slice none 0 0 ∧ RdrV w' p A c d er) ∧ (er = 0 → (∃ A' c', RdrV w' p A' c' (d.drop n) 0) ∧ v = .slice A n c ∧ RdB w' v (d.take n) ∧ TyB w' v 5) := by
  obtain ⟨⟨fn, recv, cap, rfl, hbody, hcall⟩, hk, hfit⟩ := hs
  have c1 : w.cell? ⟨p, 1, none⟩ = some (.int .i64 0) := h.blk.cell 1 rfl
  have HC := Lib.hid hcall
  have HK := Lib.hid hk
  have HF := Lib.hid hfit
  have hcap : d.length ≤ c := by obtain ⟨A', c', hv, h1, _⟩ := RdB.form h.rd; injection hv with _ _ hc; omega
  clear hcall hk hfit h
  by_cases he : er = 0
  · subst he
    have hn := HF.out rfl
    have hsl : ∀ w', (Instr.slice 35 (.slice A d.length c) none (some (.int .i64 (n : Int))) none).run Try.prog w' = .ok (.slice A n c) w' := fun w' => slice_to Try.underlying35 (fun _ => by kernel_rfl) (by omega) w'
    clear HF
    go_enter Try.func43, Try.ntmps43
    go_wp2_with fail
    refine (HC.out).mono ?_
    rintro e w1 ⟨rfl, hG⟩
    have h1 := HK.out w1 hG
    have c0 : w1.cell? ⟨p, 0, none⟩ = some (.slice A d.length c) := h1.blk.cell 0 rfl
    have f0 : w1.frozen? ⟨p, 0, none⟩ = false := h1.blk.free 0
    obtain ⟨A', hsl2, hr2, hbk⟩ := slice_from (P := Try.prog) (T := 35) (e := 5) Try.underlying35 (fun _ => by kernel_rfl) (k := n) h1.rd hn (n : Int) rfl
    have H1 := Lib.hid h1
    have H2 := Lib.hid hr2
    have HB := Lib.hid hbk
    clear h1 hr2 hbk
    go_wp2_with fail
    go_ret
    have h1 := H1.out
    have hf : Fr1 p w1 (w1.setCell ⟨p, 0, none⟩ (.slice A' (d.length - n) (c - n))) := Fr.setCell (S := fun b => b = p) (p := ⟨p, 0, none⟩) (Fr.refl _ w1) (.inl rfl) _
    have ht : TyB w1 (.slice A n c) 5 := fun g hg => h1.ty g (by cases A with | none => cases hg | some a => exact hg)
    have hr3 : RdB w1 (.slice A n c) (d.take n) := RdB.take h1.rd hn
    have ht' : TyB w1 (.slice A' (d.length - n) (c - n)) 5 := fun g hg => h1.ty g (HB.out g hg)
    have hne : 5 ≠ 79 := by decide
    have hl : (d.drop n).length = d.length - n := List.length_drop
    refine ⟨w1, _, rfl, hG, hf, fun h => absurd rfl h, fun _ => ⟨⟨A', c - n, ?_, ?_, ?_⟩, rfl, ?_, ?_⟩⟩
    · rw [hl]; exact h1.blk.set 0 _
    · rw [hl]; exact Rd.frT H2.out ht' hf h1.blk hne
    · rw [hl]; exact ht'.fr1 hf h1.blk hne
    · exact Rd.frT hr3 ht hf h1.blk hne
    · exact ht.fr1 hf h1.blk hne
  · have hb : (er != 0) = true := by simpa using he
    go_enter Try.func43, Try.ntmps43
    go_wp2_with fail
    refine (HC.out).mono ?_
    rintro e w1 ⟨rfl, hG⟩
    have h1 := HK.out w1 hG
    have f1 : w1.frozen? ⟨p, 1, none⟩ = false := h1.blk.free 1
    have c2 : w1.cell? ⟨p, 1, none⟩ = some (.int .i64 0) := h1.blk.cell 1 rfl
    have H1 := Lib.hid h1
    clear h1
    go_wp2_with fail
    go_ret
    have h1 := H1.out
    have hf : Fr1 p w1 (w1.setCell ⟨p, 1, none⟩ (.int .i64 er)) := Fr.setCell (S := fun b => b = p) (p := ⟨p, 1, none⟩) (Fr.refl _ w1) (.inl rfl) _
    have hne : 5 ≠ 79 := by decide
    exact ⟨w1, _, rfl, hG, hf, fun _ => ⟨rfl, h1.blk.set 1 _, Rd.frT h1.rd h1.ty hf h1.blk hne, h1.ty.fr1 hf h1.blk hne⟩, fun h => absurd h he⟩
end Go.Proofs.Ytpmindbipclphaa
