/- The reference's Form of an instruction. Conditions stand in the statements. -/
import Derived.Test.YtkgjmfmnkcfabaaInstrLaw
import Derived.Test.YtkgjmfmnkcfabaaWireOwn
import Derived.Test.YtkgjmfmnkcfabaaWireRefN
import Derived.Test.YtkgjmfmnkcfabaaWApp
namespace Go.Proofs.Ytkgjmfmnkcfabaa
open Go.RowKit

theorem refNumI_any (n : Int) (h0 : 0 ≤ n) (h1 : n ≤ 9223372036854775807) (w : World) :
    Calls Try.prog 28 #[.int .u64 n] w fun e w' => ∃ v, e = .returned v ∧ w'.ownsRow w.heap.size 5 1 v (form n.toNat).length (byts (form n.toNat)) ∧ Fr0 w w' := by
  have h := refNum_any n.toNat (by omega) w
  rw [show ((n.toNat : Nat) : Int) = n by omega] at h
  exact h

set_option maxHeartbeats 2000000 in
set_option maxRecDepth 100000 in
theorem refIForm_any {old new ack trash : Int} {dv : Value} {d : List UInt8} {w : World} (hd : RdB w dv d) (h : may old new ack trash d.length = 0) :
    Calls Try.prog 15 #[.agg #[.int .i64 old, .int .i64 new, .int .i64 ack, .int .i64 trash, dv]] w fun e w' => ∃ v, e = .returned v ∧ w'.ownsRow w.heap.size 5 1 v (iForm old new ack trash d).length (byts (iForm old new ack trash d)) ∧ Fr0 w w' := by
  obtain ⟨A, c, rfl, hnc, hcm, hnone⟩ := hd.form
  obtain ⟨k1, k2, k3, k4, k5, k6, -, k8⟩ := may_zero.1 h
  unfold okn at k1 k2 k3 k4
  have H1 := Lib.hid (refNumI_any old (by omega) (by omega))
  have H2 := Lib.hid (refNumI_any (new - old) (by omega) (by omega))
  have H3 := Lib.hid (refNumI_any ack (by omega) (by omega))
  have H4 := Lib.hid (refNumI_any (old - trash) (by omega) (by omega))
  have l1 := form_len_le (n := old.toNat) (by omega)
  have l2 := form_len_le (n := (new - old).toNat) (by omega)
  have l3 := form_len_le (n := ack.toNat) (by omega)
  have l4 := form_len_le (n := (old - trash).toNat) (by omega)
  have hI : iForm old new ack trash d = form old.toNat ++ form (new - old).toNat ++ form ack.toNat ++ form (old - trash).toNat ++ d := by simp [iForm]
  obtain ⟨f1, hf1⟩ : ∃ f, f = form old.toNat := ⟨_, rfl⟩
  obtain ⟨f2, hf2⟩ : ∃ f, f = form (new - old).toNat := ⟨_, rfl⟩
  obtain ⟨f3, hf3⟩ : ∃ f, f = form ack.toNat := ⟨_, rfl⟩
  obtain ⟨f4, hf4⟩ : ∃ f, f = form (old - trash).toNat := ⟨_, rfl⟩
  rw [← hf1] at H1 l1 hI
  rw [← hf2] at H2 l2 hI
  rw [← hf3] at H3 l3 hI
  rw [← hf4] at H4 l4 hI
  have HI := Lib.hid hI
  have y1 : IntKind.i64.wrap (new - old) = new - old := IntWalk.i64_in _ (by omega)
  have y2 : IntKind.i64.wrap (old - trash) = old - trash := IntWalk.i64_in _ (by omega)
  have u0 : IntKind.u64.wrap old = old := by show old % 18446744073709551616 = _; omega
  have u1 : IntKind.u64.wrap (new - old) = new - old := by show (new - old) % 18446744073709551616 = _; omega
  have u2 : IntKind.u64.wrap ack = ack := by show ack % 18446744073709551616 = _; omega
  have u3 : IntKind.u64.wrap (old - trash) = old - trash := by show (old - trash) % 18446744073709551616 = _; omega
  have D := Lib.hid hd
  have BX0 := Lib.hid (Blk.new w #[.int .i64 old, .int .i64 new, .int .i64 ack, .int .i64 trash, .slice A d.length c] 25)
  clear hf1 hf2 hf3 hf4 hI h hd
  go_enter Try.func15, Try.ntmps15
  go_wp2_with (first
    | (at_builtin; have _q := P; refine app_bytes rfl _ _ rfl F.out O.out (by rfl) (P.out) (by rfl) (by omega) ?_; intro A5 c5 w5 hown hf; have hf2 := hf; replace F := Lib.hid hf; clear P; replace O := Lib.hid hown; clear x0 x1 x2 x3 x4; have x0 : w5.cell? ⟨w.heap.size, 0, none⟩ = some (.int .i64 old) := ((BX0.out).fr0 F.out).cell 0 rfl; have x1 : w5.cell? ⟨w.heap.size, 1, none⟩ = some (.int .i64 new) := ((BX0.out).fr0 F.out).cell 1 rfl; have x2 : w5.cell? ⟨w.heap.size, 2, none⟩ = some (.int .i64 ack) := ((BX0.out).fr0 F.out).cell 2 rfl; have x3 : w5.cell? ⟨w.heap.size, 3, none⟩ = some (.int .i64 trash) := ((BX0.out).fr0 F.out).cell 3 rfl; have x4 : w5.cell? ⟨w.heap.size, 4, none⟩ = some (.slice A d.length c) := ((BX0.out).fr0 F.out).cell 4 rfl; clear hf hf2 hown)
    | (at_builtin; refine app_bytes rfl _ _ rfl F.out O.out (by rfl) ((D.out).fr0 (Fr0.trans ((Fr0.refl w).alloc _) F.out)) (by rfl) (by omega) ?_; intro A6 c6 w6 hown hf; replace F := Lib.hid hf; replace O := Lib.hid hown; clear hf hown)
    | (have _q := T3; go_at_call 28; refine (H4.out _).mono ?_; rintro e w4 ⟨v, rfl, hown, hf⟩; obtain ⟨A4, c4, rfl, hr, -⟩ := own_text hown; have P := Lib.hid hr; replace O := Lib.hid (own_fr (O.out) hf (fun _ _ h => h)); replace F := Lib.hid ((F.out).trans hf); clear x0 x1 x2 x3 x4 hf; have x0 : w4.cell? ⟨w.heap.size, 0, none⟩ = some (.int .i64 old) := ((BX0.out).fr0 F.out).cell 0 rfl; have x1 : w4.cell? ⟨w.heap.size, 1, none⟩ = some (.int .i64 new) := ((BX0.out).fr0 F.out).cell 1 rfl; have x2 : w4.cell? ⟨w.heap.size, 2, none⟩ = some (.int .i64 ack) := ((BX0.out).fr0 F.out).cell 2 rfl; have x3 : w4.cell? ⟨w.heap.size, 3, none⟩ = some (.int .i64 trash) := ((BX0.out).fr0 F.out).cell 3 rfl; have x4 : w4.cell? ⟨w.heap.size, 4, none⟩ = some (.slice A d.length c) := ((BX0.out).fr0 F.out).cell 4 rfl; clear hown hr)
    | (have _q := T2; go_at_call 28; refine (H3.out _).mono ?_; rintro e w4 ⟨v, rfl, hown, hf⟩; obtain ⟨A4, c4, rfl, hr, -⟩ := own_text hown; have P := Lib.hid hr; have T3 := Lib.hid True.intro; replace O := Lib.hid (own_fr (O.out) hf (fun _ _ h => h)); replace F := Lib.hid ((F.out).trans hf); clear x0 x1 x2 x3 x4 hf; have x0 : w4.cell? ⟨w.heap.size, 0, none⟩ = some (.int .i64 old) := ((BX0.out).fr0 F.out).cell 0 rfl; have x1 : w4.cell? ⟨w.heap.size, 1, none⟩ = some (.int .i64 new) := ((BX0.out).fr0 F.out).cell 1 rfl; have x2 : w4.cell? ⟨w.heap.size, 2, none⟩ = some (.int .i64 ack) := ((BX0.out).fr0 F.out).cell 2 rfl; have x3 : w4.cell? ⟨w.heap.size, 3, none⟩ = some (.int .i64 trash) := ((BX0.out).fr0 F.out).cell 3 rfl; have x4 : w4.cell? ⟨w.heap.size, 4, none⟩ = some (.slice A d.length c) := ((BX0.out).fr0 F.out).cell 4 rfl; clear hown hr)
    | (have _q := T1; go_at_call 28; refine (H2.out _).mono ?_; rintro e w4 ⟨v, rfl, hown, hf⟩; obtain ⟨A4, c4, rfl, hr, -⟩ := own_text hown; have P := Lib.hid hr; have T2 := Lib.hid True.intro; replace O := Lib.hid (own_fr (O.out) hf (fun _ _ h => h)); replace F := Lib.hid ((F.out).trans hf); clear x0 x1 x2 x3 x4 hf; have x0 : w4.cell? ⟨w.heap.size, 0, none⟩ = some (.int .i64 old) := ((BX0.out).fr0 F.out).cell 0 rfl; have x1 : w4.cell? ⟨w.heap.size, 1, none⟩ = some (.int .i64 new) := ((BX0.out).fr0 F.out).cell 1 rfl; have x2 : w4.cell? ⟨w.heap.size, 2, none⟩ = some (.int .i64 ack) := ((BX0.out).fr0 F.out).cell 2 rfl; have x3 : w4.cell? ⟨w.heap.size, 3, none⟩ = some (.int .i64 trash) := ((BX0.out).fr0 F.out).cell 3 rfl; have x4 : w4.cell? ⟨w.heap.size, 4, none⟩ = some (.slice A d.length c) := ((BX0.out).fr0 F.out).cell 4 rfl; clear hown hr)
    | (go_at_call 28; refine (H1.out _).mono ?_; rintro e w2 ⟨v, rfl, hown, hf⟩; obtain ⟨A1, c1, rfl, -, -, -⟩ := own_form hown; have F := Lib.hid hf; have O := Lib.hid hown; have x0 : w2.cell? ⟨w.heap.size, 0, none⟩ = some (.int .i64 old) := ((BX0.out).fr0 F.out).cell 0 rfl; have x1 : w2.cell? ⟨w.heap.size, 1, none⟩ = some (.int .i64 new) := ((BX0.out).fr0 F.out).cell 1 rfl; have x2 : w2.cell? ⟨w.heap.size, 2, none⟩ = some (.int .i64 ack) := ((BX0.out).fr0 F.out).cell 2 rfl; have x3 : w2.cell? ⟨w.heap.size, 3, none⟩ = some (.int .i64 trash) := ((BX0.out).fr0 F.out).cell 3 rfl; have x4 : w2.cell? ⟨w.heap.size, 4, none⟩ = some (.slice A d.length c) := ((BX0.out).fr0 F.out).cell 4 rfl; have T1 := Lib.hid True.intro; clear hf hown))
  go_ret
  refine ⟨_, rfl, ?_, Fr0.trans ((Fr0.refl w).alloc _) F.out⟩
  have := own_base O.out (show w.heap.size ≤ _ by simp)
  rw [← HI.out] at this
  have hl := this.1
  rw [byts_len, Nat.mul_one, Nat.mul_one] at hl
  rw [hl]
  exact this
end Go.Proofs.Ytkgjmfmnkcfabaa
