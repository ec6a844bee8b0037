/- instr.Form. Conditions stand in the statements. -/
import Derived.Test.YtkgjmfmnkcfabaaInstrLaw
import Derived.Test.YtkgjmfmnkcfabaaConcat
import Derived.Test.YtkgjmfmnkcfabaaWireOwn
import Derived.Deep.RegionHeldLaw
import Derived.Deep.DeepCutAuto
namespace Go.Proofs.Ytkgjmfmnkcfabaa
open Go.RowKit

set_option maxHeartbeats 400000 in
theorem form1_any (n : Int) (h0 : 0 ≤ n) (h1 : n ≤ 9223372036854775807) (w : World) :
    Calls Try.prog 23 #[.int .i64 n] w fun e w' => ∃ v, e = .returned v ∧ w'.ownsRow w.heap.size 5 1 v (form n.toNat).length (byts (form n.toNat)) ∧ Fr0 w w' := by
  have hN := Lib.hid (wireNum_any n.toNat (by omega) w)
  have e : ((n.toNat : Nat) : Int) = n := by omega
  rw [e] at hN
  have y0 : IntKind.u64.wrap n = n := by show n % 18446744073709551616 = _; omega
  clear e
  go_enter Try.func23, Try.ntmps23
  go_wp2_with (go_at_call 24; refine (hN.out).mono ?_; rintro e w1 ⟨v1, rfl, hown, hf⟩; have O := Lib.hid hown; have F := Lib.hid hf; clear hown hf)
  go_ret
  exact ⟨_, rfl, O.out, F.out⟩

theorem parts5 {w : World} {v1 v2 v3 v4 v5 : Value} {l1 l2 l3 l4 l5 : List UInt8} (h1 : RdB w v1 l1) (h2 : RdB w v2 l2) (h3 : RdB w v3 l3) (h4 : RdB w v4 l4) (h5 : RdB w v5 l5) (t : TypeId) :
    Parts (w.alloc (.cells #[v1, v2, v3, v4, v5] t)) (.slice (some ⟨w.heap.size, 0, none⟩) 5 5) [(v1, l1), (v2, l2), (v3, l3), (v4, l4), (v5, l5)] := by
  have hf : Fr0 w (w.alloc (.cells #[v1, v2, v3, v4, v5] t)) := (Fr0.refl w).alloc _
  refine ⟨⟨rfl, ⟨_, _, rfl, Nat.le_refl _, by unfold maxLen; simp, fun h => by cases h⟩, fun _ => ⟨w.heap.size, 0, 5, _, _, _, rfl, heap_alloc_new w _, fun j u hu => by simpa using hu⟩⟩, fun x hx => ?_⟩
  simp only [List.mem_cons, List.not_mem_nil, or_false] at hx
  rcases hx with rfl | rfl | rfl | rfl | rfl
  · exact h1.fr0 hf
  · exact h2.fr0 hf
  · exact h3.fr0 hf
  · exact h4.fr0 hf
  · exact h5.fr0 hf

set_option maxHeartbeats 400000 in
theorem iform_bad {old new ack trash : Int} {A : Option Addr} {n c : Nat} {w : World} (h : may old new ack trash n ≠ 0) :
    Calls Try.prog 11 #[.agg #[.int .i64 old, .int .i64 new, .int .i64 ack, .int .i64 trash, .slice A n c]] w fun e w' => e = .returned (.tuple #[.slice none 0 0, .int .i64 (may old new ack trash n)]) ∧ Fr0 w w' := by
  have b0 : (may old new ack trash n != 0) = true := by simpa using h
  have hM := Lib.hid (may_any old new ack trash A n c)
  obtain ⟨m, hm⟩ : ∃ m, m = may old new ack trash n := ⟨_, rfl⟩
  rw [← hm] at b0 hM ⊢
  clear h hm
  go_enter Try.func11, Try.ntmps11
  go_wp2_with (go_at_call 12; refine (hM.out _).mono ?_; rintro e w1 ⟨rfl, hf⟩; have F := Lib.hid (((Fr0.refl w).alloc _).trans hf); clear hf)
  go_ret2
  exact ⟨rfl, F.out⟩

set_option maxHeartbeats 4000000 in
set_option maxRecDepth 100000 in
theorem iform_good {old new ack trash : Int} {dv : Value} {d : List UInt8} {w : World} (hd : RdB w dv d) (h : may old new ack trash d.length = 0) :
    Calls Try.prog 11 #[.agg #[.int .i64 old, .int .i64 new, .int .i64 ack, .int .i64 trash, dv]] w fun e w' => ∃ v, e = .returned (.tuple #[v, .int .i64 0]) ∧ w'.ownsRow w.heap.size 5 1 v (iForm old new ack trash d).length (byts (iForm old new ack trash d)) ∧ Fr0 w w' := by
  obtain ⟨A, c, rfl, hnc, hcm, hnone⟩ := hd.form
  obtain ⟨k1, k2, k3, k4, k5, k6, -, k8⟩ := may_zero.1 h
  unfold okn at k1 k2 k3 k4
  have hlen := iForm_len h
  have hM := Lib.hid (may_any old new ack trash A d.length c)
  rw [h] at hM
  have hj : joined [(Value.slice none 0 0, form old.toNat), (Value.slice none 0 0, form (new - old).toNat), (Value.slice none 0 0, form ack.toNat), (Value.slice none 0 0, form (old - trash).toNat), (Value.slice none 0 0, d)] = iForm old new ack trash d := by simp [joined, iForm]
  have H1 := Lib.hid (form1_any old (by omega) (by omega))
  have H2 := Lib.hid (form1_any (new - old) (by omega) (by omega))
  have H3 := Lib.hid (form1_any ack (by omega) (by omega))
  have H4 := Lib.hid (form1_any (old - trash) (by omega) (by omega))
  have JF := Lib.hid (fun (v1 v2 v3 v4 v5 : Value) => (show joined [(v1, form old.toNat), (v2, form (new - old).toNat), (v3, form ack.toNat), (v4, form (old - trash).toNat), (v5, d)] = iForm old new ack trash d by simp [joined, iForm]))
  obtain ⟨f1, hf1⟩ : ∃ f, f = form old.toNat := ⟨_, rfl⟩
  obtain ⟨f2, hf2⟩ : ∃ f, f = form (new - old).toNat := ⟨_, rfl⟩
  obtain ⟨f3, hf3⟩ : ∃ f, f = form ack.toNat := ⟨_, rfl⟩
  obtain ⟨f4, hf4⟩ : ∃ f, f = form (old - trash).toNat := ⟨_, rfl⟩
  obtain ⟨fi, hfi⟩ : ∃ f, f = iForm old new ack trash d := ⟨_, rfl⟩
  rw [← hf1] at H1 JF
  rw [← hf2] at H2 JF
  rw [← hf3] at H3 JF
  rw [← hf4] at H4 JF
  rw [← hfi] at JF hlen ⊢
  have y1 : IntKind.i64.wrap (new - old) = new - old := IntWalk.i64_in _ (by omega)
  have y2 : IntKind.i64.wrap (old - trash) = old - trash := IntWalk.i64_in _ (by omega)
  have hfl : fi.length ≤ 10000000 := by omega
  have D := Lib.hid hd
  clear hf1 hf2 hf3 hf4 hfi hj h hd hlen
  go_enter Try.func11, Try.ntmps11
  go_wp2_with (go_at_call 12; refine (hM.out _).mono ?_; rintro e w1 ⟨rfl, hf⟩; have F := Lib.hid (((Fr0.refl w).alloc _).trans hf); have BX := Lib.hid (Blk.fr0 (Blk.new w #[.int .i64 old, .int .i64 new, .int .i64 ack, .int .i64 trash, .slice A d.length c] 25) hf); clear hf)
  replace F := Lib.hid ((F.out).drew)
  replace BX := Lib.hid ((BX.out).drew)
  go_region_held_law (fun w' => w'.cell? ⟨w.heap.size, 0, none⟩ = some (.int .i64 old) ∧ w'.cell? ⟨w.heap.size, 1, none⟩ = some (.int .i64 new) ∧ w'.cell? ⟨w.heap.size, 2, none⟩ = some (.int .i64 ack) ∧ w'.cell? ⟨w.heap.size, 3, none⟩ = some (.int .i64 trash) ∧ w'.cell? ⟨w.heap.size, 4, none⟩ = some (.slice A d.length c))
    (first | exact ⟨(BX.out).cell 0 rfl, (BX.out).cell 1 rfl, (BX.out).cell 2 rfl, (BX.out).cell 3 rfl, (BX.out).cell 4 rfl⟩ | exact ⟨((BX.out).alloc _).cell 0 rfl, ((BX.out).alloc _).cell 1 rfl, ((BX.out).alloc _).cell 2 rfl, ((BX.out).alloc _).cell 3 rfl, ((BX.out).alloc _).cell 4 rfl⟩) (first
    | (have _q := P4; go_at_call 25; refine (concat_any (parts5 P1.out P2.out P3.out P4.out ((D.out).fr0 F.out) _) (by rw [JF.out]; exact hfl)).mono ?_; rintro e w6 ⟨v, rfl, hown, hf⟩; rw [JF.out] at hown; have O := Lib.hid (own_base hown (Nat.le_trans (F.out).size (by simp))); replace F := Lib.hid (((F.out).alloc _).trans hf); replace BX := Lib.hid (Blk.fr0 ((BX.out).alloc _) hf); clear hf hown)
    | (have _q := P3; go_at_call 23; refine (H4.out _).mono ?_; rintro e w5 ⟨v, rfl, hown, hf⟩; obtain ⟨A4, c4, rfl, hr, -⟩ := own_text hown; replace P1 := Lib.hid ((P1.out).fr0 hf); replace P2 := Lib.hid ((P2.out).fr0 hf); replace P3 := Lib.hid ((P3.out).fr0 hf); have P4 := Lib.hid hr; replace F := Lib.hid ((F.out).trans hf); replace BX := Lib.hid ((BX.out).fr0 hf); clear hf hown hr)
    | (have _q := P2; go_at_call 23; refine (H3.out _).mono ?_; rintro e w4 ⟨v, rfl, hown, hf⟩; obtain ⟨A3, c3, rfl, hr, -⟩ := own_text hown; replace P1 := Lib.hid ((P1.out).fr0 hf); replace P2 := Lib.hid ((P2.out).fr0 hf); have P3 := Lib.hid hr; replace F := Lib.hid ((F.out).trans hf); replace BX := Lib.hid ((BX.out).fr0 hf); clear hf hown hr)
    | (have _q := P1; go_at_call 23; refine (H2.out _).mono ?_; rintro e w3 ⟨v, rfl, hown, hf⟩; obtain ⟨A2, c2, rfl, hr, -⟩ := own_text hown; replace P1 := Lib.hid ((P1.out).fr0 hf); have P2 := Lib.hid hr; replace F := Lib.hid ((F.out).trans hf); replace BX := Lib.hid ((BX.out).fr0 hf); clear hf hown hr)
    | (go_at_call 23; refine (H1.out _).mono ?_; rintro e w2 ⟨v, rfl, hown, hf⟩; obtain ⟨A1, c1, rfl, hr, -⟩ := own_text hown; have P1 := Lib.hid hr; replace F := Lib.hid ((F.out).trans hf); replace BX := Lib.hid ((BX.out).fr0 hf); clear hf hown hr))
  all_goals (go_wp2_with fail; go_ret2; exact ⟨_, rfl, O.out, F.out⟩)
end Go.Proofs.Ytkgjmfmnkcfabaa
