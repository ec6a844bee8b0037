/- The reader's Fixed, Rest, Left, Err, End. Conditions stand in the statements. -/
import Derived.Test.YthgmimeheeajgaaWireRFix
namespace Go.Proofs.Ythgmimeheeajgaa
open Go.RowKit

/-- Bytes as a number, the first one highest. -/
def fixVal (l : List UInt8) : Nat := l.foldl (fun n x => n * 256 + x.toNat) 0
theorem fixVal_snoc (l : List UInt8) (x : UInt8) : fixVal (l ++ [x]) = fixVal l * 256 + x.toNat := by simp [fixVal]
theorem fixVal_lt (l : List UInt8) : fixVal l < 256 ^ l.length := by
  have gen : ∀ (l : List UInt8) (a k : Nat), a < 256 ^ k → l.foldl (fun n x => n * 256 + x.toNat) a < 256 ^ (k + l.length) := by
    intro l
    induction l with
    | nil => intro a k h; simpa using h
    | cons x r ih =>
      intro a k h
      have hx := x.toNat_lt
      have := ih (a * 256 + x.toNat) (k + 1) (by rw [Nat.pow_succ]; omega)
      rw [List.foldl_cons, List.length_cons, show k + (r.length + 1) = k + 1 + r.length by omega]
      exact this
  simpa [fixVal] using gen l 0 0 (by simp)
theorem or8 (n m : Nat) (hn : n ≤ 72057594037927935) (hm : m < 256) : bits .or .u64 ((n : Int) * 256) (m : Int) = (n : Int) * 256 + (m : Int) := by
  have h := u64_or_nat (n * 256) m (by omega) (by omega)
  have e : n * 256 ||| m = n * 256 + m := nat_join 8 (n * 256) m (by omega) (by omega)
  rw [e] at h
  have h' : bits .or .u64 ((n * 256 : Nat) : Int) (m : Int) = ((n * 256 + m : Nat) : Int) := h
  rw [show ((n * 256 : Nat) : Int) = (n : Int) * 256 by omega] at h'
  rw [h']
  omega

def rFixed (d : List UInt8) (e : Int) (size : Int) : Nat × List UInt8 × Int :=
  if e ≠ 0 then (0, d, e) else if (fStep d size).2 ≠ 0 then (0, d, 4) else (fixVal (d.take (fStep d size).1), d.drop (fStep d size).1, 0)

theorem fStep_facts (d : List UInt8) (size : Int) : ((fStep d size).2 = 0 → (fStep d size).1 ≤ d.length ∧ (fStep d size).1 ≤ 8) ∧ ((fStep d size).2 ≠ 0 → (fStep d size).2 = 4) := by
  unfold fStep
  split
  · simp
  · simp; omega

theorem fixed1_step {p b0 b1 : Nat} {A : Option Addr} {c : Nat} {d : List UInt8} {size : Int} {w : World} (h : RdrV w p A c d 0) (hn : d.length ≤ 100000000) (hm : -9223372036854775808 ≤ size ∧ size ≤ 9223372036854775807)
    (h0 : Blk w b0 #[.int .i64 size] 3) (h1 : Blk w b1 #[.pointer (some ⟨p, 0, none⟩)] 27) :
    StepFn w p A c d (.func (.func 36) #[] #[.pointer (some ⟨b0, 0, none⟩), .pointer (some ⟨b1, 0, none⟩)]) (fStep d size).1 (fStep d size).2 (fun w' => Fr0 w w') :=
  ⟨⟨_, _, _, rfl, fun args w1 => by kernel_rfl, fixed1_any h hn hm h0 h1⟩, fun w' hf => h.fr0 hf, fun he => ((fStep_facts d size).1 he).1⟩

/-- What take leaves for Fixed. -/
theorem fixed_take {p : Nat} {A : Option Addr} {c : Nat} {d : List UInt8} {size : Int} {w wa : World} {b0 b1 : Nat} (h : RdrV wa p A c d 0) (hn : d.length ≤ 100000000) (hm : -9223372036854775808 ≤ size ∧ size ≤ 9223372036854775807) (hfa : Fr0 w wa)
    (h0 : Blk wa b0 #[.int .i64 size] 3) (h1 : Blk wa b1 #[.pointer (some ⟨p, 0, none⟩)] 27) :
    Calls Try.prog 33 #[.pointer (some ⟨p, 0, none⟩), .func (.func 36) #[] #[.pointer (some ⟨b0, 0, none⟩), .pointer (some ⟨b1, 0, none⟩)]] wa fun x w2 =>
      ∃ Av cv l, x = .returned (.slice Av l.length cv) ∧ RdB w2 (.slice Av l.length cv) l ∧ l.length ≤ 8 ∧ fixVal l = (rFixed d 0 size).1 ∧ Fr1 p w w2 ∧ ∃ A' c', RdrV w2 p A' c' (rFixed d 0 size).2.1 (rFixed d 0 size).2.2 := by
  refine (take_any h (fixed1_step h hn hm h0 h1)).mono ?_
  rintro x w2 ⟨w1, v, rfl, hg, hf, k1, k2⟩
  obtain ⟨s1, s2⟩ := fStep_facts d size
  have hfull : Fr1 p w w2 := ((Fr1.of0 (hfa.trans hg)).trans hf)
  by_cases hk : (fStep d size).2 = 0
  · have e2 : rFixed d 0 size = (fixVal (d.take (fStep d size).1), d.drop (fStep d size).1, 0) := by unfold rFixed; rw [if_neg (by simp), if_neg (by simpa using hk)]
    obtain ⟨⟨A', c', h3⟩, rfl, h4, h5⟩ := k2 hk
    obtain ⟨j1, j2⟩ := s1 hk
    have hl : (d.take (fStep d size).1).length = (fStep d size).1 := by rw [List.length_take]; omega
    rw [e2]
    exact ⟨A, c, d.take (fStep d size).1, by rw [hl], by rw [hl]; exact h4, by omega, rfl, hfull, A', c', h3⟩
  · have e1 : rFixed d 0 size = (0, d, 4) := by unfold rFixed; rw [if_neg (by simp), if_pos hk]
    obtain ⟨rfl, h3⟩ := k1 hk
    rw [s2 hk] at h3
    rw [e1]
    exact ⟨none, 0, [], rfl, RdB.nil w2, by simp, rfl, hfull, A, c, h3⟩

set_option maxHeartbeats 400000 in
set_option maxRecDepth 100000 in
theorem rfixed_any {p : Nat} {A : Option Addr} {c : Nat} {d : List UInt8} {e : Int} {size : Int} {w : World} (h : RdrV w p A c d e) (hn : d.length ≤ 100000000) (hm : -9223372036854775808 ≤ size ∧ size ≤ 9223372036854775807) :
    Calls Try.prog 23 #[.pointer (some ⟨p, 0, none⟩), .int .i64 size] w fun x w' => x = .returned (.int .u64 ((rFixed d e size).1 : Nat)) ∧ Fr1 p w w' ∧ ∃ A' c', RdrV w' p A' c' (rFixed d e size).2.1 (rFixed d e size).2.2 := by
  have H := Lib.hid h
  obtain ⟨wa, hwa⟩ : ∃ wa, wa = ((w.alloc (.cells #[.pointer (some ⟨p, 0, none⟩)] 27)).alloc (.cells #[.int .i64 size] 3)) := ⟨_, rfl⟩
  have hfa : Fr0 w wa := by rw [hwa]; exact ((Fr0.refl w).alloc _).alloc _
  have ha := h.fr0 hfa
  have b0 : Blk wa w.heap.size #[.pointer (some ⟨p, 0, none⟩)] 27 := by rw [hwa]; exact (Blk.new _ _ _).alloc _
  have b1 : Blk wa (w.heap.size + 1) #[.int .i64 size] 3 := by
    rw [hwa]; have := (Blk.new (w.alloc (.cells #[.pointer (some ⟨p, 0, none⟩)] 27)) #[.int .i64 size] 3)
    simpa using this
  have hT : Calls Try.prog 33 #[.pointer (some ⟨p, 0, none⟩), .func (.func 36) #[] #[.pointer (some ⟨w.heap.size + 1, 0, none⟩), .pointer (some ⟨w.heap.size, 0, none⟩)]] wa fun x w2 =>
      ∃ Av cv l, x = .returned (.slice Av l.length cv) ∧ RdB w2 (.slice Av l.length cv) l ∧ l.length ≤ 8 ∧ fixVal l = (rFixed d e size).1 ∧ Fr1 p w w2 ∧ ∃ A' c', RdrV w2 p A' c' (rFixed d e size).2.1 (rFixed d e size).2.2 := by
    by_cases he : e = 0
    · subst he; exact fixed_take ha hn hm hfa b1 b0
    · have e1 : rFixed d e size = (0, d, e) := by unfold rFixed; rw [if_pos he]
      refine (take_err ha he _).mono ?_
      rintro x w2 ⟨rfl, rfl⟩
      rw [e1]
      exact ⟨none, 0, [], rfl, RdB.nil _, by simp, rfl, Fr1.of0 hfa, A, c, ha⟩
  have HT := Lib.hid hT
  obtain ⟨R, hR⟩ : ∃ R, R = rFixed d e size := ⟨_, rfl⟩
  rw [← hR] at HT ⊢
  clear hT b0 b1 ha hfa h hR H
  subst hwa
  go_enter Try.func23, Try.ntmps23
  go_wp2_with (go_at_call 33; refine (HT.out).mono ?_; rintro x w2 ⟨Av, cv, l, rfl, hrd, hl8, hfv, hf, hA⟩; have F := Lib.hid hf; have HA := Lib.hid hA; have FV := Lib.hid hfv; clear hf hA hfv)
  go_loopw [5, 12] (fun v5 v12 wr => wr = w2 ∧ ∃ (i n : Nat), v5 = .int .u64 (n : Int) ∧ v12 = .int .i64 (i : Int) ∧ i ≤ l.length ∧ n = fixVal (l.take i)) (fun _ v12 _ => l.length - (intOf v12).toNat)
  case atStart => exact ⟨rfl, 0, 0, rfl, rfl, by omega, by simp [fixVal]⟩
  case round =>
    obtain ⟨rfl, i, n, rfl, rfl, hi, hr⟩ := hrel
    by_cases hlt : i < l.length
    · obtain ⟨g, off, c', hv, hic, hg, hc⟩ := hrd.cell hlt
      injection hv with hA _ hcc
      subst hA hcc
      have hn7 : n ≤ 72057594037927935 := by
        have := fixVal_lt (l.take i)
        rw [← hr, List.length_take] at this
        have h7 : min i l.length ≤ 7 := by omega
        have := Nat.pow_le_pow_right (show 0 < 256 by omega) h7
        omega
      obtain ⟨x, hx⟩ : ∃ x, x = l[i] := ⟨_, rfl⟩
      have hr2 : n * 256 + x.toNat = fixVal (l.take (i + 1)) := by rw [hr, hx, ← fixVal_snoc]; simp
      rw [← hx] at hc
      obtain ⟨y, hy⟩ : ∃ y, y = x.toNat := ⟨_, rfl⟩
      have hxl : x.toNat < 256 := x.toNat_lt
      rw [← hy] at hxl hc hr2
      have H := Lib.hid hrd
      have Hr := Lib.hid hr2
      have ei : wr.cell? ⟨g, off + i, none⟩ = some (.int .u8 (y : Int)) := hc
      clear hrd hr hr2 hc hx hy
      have eo := or8 n y hn7 hxl
      have es : (n : Int) * 256 % 18446744073709551616 = (n : Int) * 256 := by omega
      have ey : (y : Int) % 18446744073709551616 = (y : Int) := by omega
      have ew : IntKind.u64.wrap ((n : Int) * 256) = (n : Int) * 256 := by show (n : Int) * 256 % 18446744073709551616 = _; omega
      have ew2 : IntKind.u64.wrap (y : Int) = (y : Int) := by show (y : Int) % 18446744073709551616 = _; omega
      go_wp2_with fail
      go_roundw
      case rel => exact ⟨trivial, i + 1, n * 256 + y, by go_num, by go_num, by omega, Hr.out⟩
      case measure => simp [intOf]; omega
    · have e : i = l.length := by omega
      subst e
      rw [List.take_length] at hr
      have Hr := Lib.hid hr
      clear hr
      go_wp2_with fail
      go_ret
      obtain ⟨A', c', h3⟩ := HA.out
      rw [Hr.out, FV.out]
      exact ⟨rfl, F.out, A', c', h3⟩
end Go.Proofs.Ythgmimeheeajgaa
