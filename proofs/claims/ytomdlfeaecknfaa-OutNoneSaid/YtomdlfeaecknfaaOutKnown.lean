/- known of stage 23: the chapter's rows. Conditions stand in the statements. -/
import Derived.Test.YtomdlfeaecknfaaOutTell
import Derived.Test.YtomdlfeaecknfaaRefSame
import Derived.Lib.SlBytesConst
namespace Go.Proofs.Ytomdlfeaecknfaa
open Go.RowKit

def tx (l : List UInt8) : ByteArray := ⟨l.toArray⟩
def K0 : OutD := ⟨⟨#[97]⟩, [⟨0, ⟨#[97]⟩, false, 0⟩], 0, false, 0⟩
def K1 : OutD := ⟨⟨#[97]⟩, [⟨0, ⟨#[97]⟩, false, 0⟩], 0, true, 0⟩
def K2 : OutD := ⟨⟨#[98]⟩, [⟨0, ⟨#[97]⟩, false, 0⟩], 0, true, 0⟩
def K3 : OutD := ⟨⟨#[98]⟩, [⟨0, ⟨#[97]⟩, false, 0⟩, ⟨1, ⟨#[98]⟩, true, 20⟩], 0, true, 20⟩
def K4 : OutD := ⟨⟨#[99]⟩, [⟨0, ⟨#[97]⟩, false, 0⟩, ⟨1, ⟨#[98]⟩, true, 20⟩], 0, true, 20⟩
def K5 : OutD := ⟨⟨#[99]⟩, [⟨0, ⟨#[97]⟩, false, 0⟩, ⟨1, ⟨#[98]⟩, true, 20⟩, ⟨2, ⟨#[99]⟩, true, 40⟩], 0, true, 40⟩
def K6 : OutD := ⟨⟨#[99]⟩, [⟨1, ⟨#[98]⟩, true, 20⟩, ⟨2, ⟨#[99]⟩, true, 40⟩], 0, true, 40⟩
def K7 : OutD := ⟨⟨#[99]⟩, [⟨1, ⟨#[98]⟩, true, 20⟩, ⟨2, ⟨#[99]⟩, true, 140⟩], 0, true, 140⟩
theorem kt1 : tellP K0 0 100 0 = some ⟨K0.all, 0, 0, []⟩ := by rfl
theorem kt2 : tellP K2 10 100 0 = none := by rfl
theorem kt3 : tellP K2 20 100 0 = some ⟨K3.all, 0, 1, [97, 62, 98]⟩ := by rfl
theorem kt4 : tellP K4 40 100 0 = some ⟨K5.all, 1, 2, [98, 62, 99]⟩ := by rfl
theorem kt5 : tellP K6 140 100 0 = some ⟨K7.all, 1, 2, [98, 62, 99]⟩ := by rfl

theorem kok1 : OutOk K0 := new_ok _
theorem kok (K K' : OutD) (now wait ack : Int) (h : OutOk K) (e : toldP K now wait ack = K') : OutOk K' := by rw [← e]; exact told_ok h now wait ack
theorem ok1 : OutOk K1 := kok K0 K1 0 100 0 (new_ok _) rfl
theorem ok2 : OutOk K2 := set_ok ok1 ⟨#[98]⟩
theorem ok3 : OutOk K3 := kok K2 K3 20 100 0 ok2 rfl
theorem ok4 : OutOk K4 := set_ok ok3 ⟨#[99]⟩
theorem ok5 : OutOk K5 := kok K4 K5 40 100 0 ok4 rfl
theorem ok6 : OutOk K6 := heard_ok ok5 1
/-- Tell where what it tells is known. -/
theorem tell_k {K K' : OutD} {now wait ack old new base : Int} {l : List Snt} {d : List UInt8} {n : Nat} {p : Nat} {fs fd : Value} {A : Option Addr} {c : Nat} {w : World} (hs : SameFn fs) (hd : DiffFn fd) (h : OutV w p fs fd A c K) (hok : OutOk K) (hsz : ∀ x ∈ K.all, x.s.size ≤ 100000) (hnz : K.now.size ≤ 100000)
    (ht : tellP K now wait ack = some ⟨l, old, new, d⟩) (hK : K' = ⟨K.now, l, max K.ack ack, true, now⟩) (hb : (baseS K.all).n = base) (hn : d.length = n) :
    Calls Try.prog 12 #[.pointer (some ⟨p, 0, none⟩), .int .i64 now, .int .i64 wait, .int .i64 ack] w fun e w' => ∃ A c Ad cd, e = .returned (.tuple #[.agg #[.int .i64 old, .int .i64 new, .int .i64 ack, .int .i64 base, .slice Ad n cd], .bool true]) ∧ Fr1 p w w' ∧ OutV w' p fs fd A c K' ∧ RdB w' (.slice Ad n cd) d ∧ TyB w' (.slice Ad n cd) 5 := by
  refine (tell_any hs hd h hok hsz hnz now wait ack).mono ?_
  rintro e w' ⟨hf, hm⟩
  rw [ht] at hm
  obtain ⟨A, c, Ad, cd, rfl, ho, h1, h2⟩ := hm
  subst hb hn
  refine ⟨A, c, Ad, cd, rfl, hf, ?_, h1, h2⟩
  rw [hK]
  exact ho
theorem tell_k0 {K : OutD} {now wait ack : Int} {p : Nat} {fs fd : Value} {A : Option Addr} {c : Nat} {w : World} (hs : SameFn fs) (hd : DiffFn fd) (h : OutV w p fs fd A c K) (hok : OutOk K) (hsz : ∀ x ∈ K.all, x.s.size ≤ 100000) (hnz : K.now.size ≤ 100000)
    (ht : tellP K now wait ack = none) :
    Calls Try.prog 12 #[.pointer (some ⟨p, 0, none⟩), .int .i64 now, .int .i64 wait, .int .i64 ack] w fun e w' => ∃ A c, e = .returned (.tuple #[.agg #[.int .i64 0, .int .i64 0, .int .i64 0, .int .i64 0, .slice none 0 0], .bool false]) ∧ Fr1 p w w' ∧ OutV w' p fs fd A c K := by
  refine (tell_any hs hd h hok hsz hnz now wait ack).mono ?_
  rintro e w' ⟨hf, hm⟩
  rw [ht] at hm
  obtain ⟨rfl, A, c, ho⟩ := hm
  exact ⟨A, c, rfl, hf, ho⟩
theorem small_k (K : OutD) (h : K.all.all (fun x => decide (x.s.size ≤ 100000)) = true) : ∀ x ∈ K.all, x.s.size ≤ 100000 := by
  intro x hx
  have := List.all_eq_true.1 h x hx
  exact of_decide_eq_true this

set_option maxHeartbeats 400000 in
theorem texts_any (w : World) : Calls Try.prog 10 #[] w fun e w' => e = .returned (.agg #[.func (.func 23) #[] #[], .func (.func 24) #[] #[]]) ∧ Fr0 w w' := by
  go_enter Try.func10, Try.ntmps10
  go_wp21
  have hb := Blk.new w #[.func (.func 23) #[] #[], .func (.func 24) #[] #[]] 29
  refine bodyPost_ret (v := .agg #[.func (.func 23) #[] #[], .func (.func 24) #[] #[]]) ?_ rfl ⟨rfl, (Fr0.refl w).alloc _⟩
  have hl := run_loadVar_row (P := Try.prog) _ w.heap.size 29 29 _ (0, 0) _ hb Try.underlying29 rfl (by kernel_rfl)
  simp only [results, show Try.f10.results = #[.cell 0 29] from rfl]
  simp [asAddr, hl]

/-- An instruction in a variable. -/
structure InsV (w : World) (q : Nat) (old new ack trash : Int) (A : Option Addr) (k c : Nat) (d : List UInt8) : Prop where
  blk : Blk w q #[.int .i64 old, .int .i64 new, .int .i64 ack, .int .i64 trash, .slice A k c] 37
  rd : RdB w (.slice A k c) d
  ty : TyB w (.slice A k c) 5
section
variable {w w' : World} {q : Nat} {old new ack trash : Int} {A : Option Addr} {k c : Nat} {d : List UInt8}
theorem InsV.fr0 (h : InsV w q old new ack trash A k c d) (hf : Fr0 w w') : InsV w' q old new ack trash A k c d := ⟨h.blk.fr0 hf, h.rd.fr0 hf, h.ty.fr0 hf⟩
theorem InsV.fr1 {p : Nat} {vs : Array Value} {t : TypeId} (h : InsV w q old new ack trash A k c d) (hf : Fr1 p w w') (hb : Blk w p vs t) (h1 : 37 ≠ t) (h2 : 5 ≠ t) : InsV w' q old new ack trash A k c d :=
  ⟨h.blk.fr1 hf (h.blk.ne hb h1), Rd.frT h.rd h.ty hf hb h2, h.ty.fr1 hf hb h2⟩
theorem InsV.make (hr : RdB w (.slice A k c) d) (ht : TyB w (.slice A k c) 5) : InsV (w.alloc (.cells #[.int .i64 old, .int .i64 new, .int .i64 ack, .int .i64 trash, .slice A k c] 37)) w.heap.size old new ack trash A k c d :=
  ⟨Blk.new _ _ _, hr.fr0 ((Fr0.refl w).alloc _), ht.fr0 ((Fr0.refl w).alloc _)⟩
end
theorem same_lit {w : World} {A : Option Addr} {k c : Nat} {o n a t : Int} {d : List UInt8} (h : RdB w (.slice A k c) d) (o' n' a' t' : Int) (b1 b2 b3 : UInt8) (fz : Nat × Nat) (r : Bool) (hr : alike o n a t d o' n' a' t' [b1, b2, b3] = r) :
    Calls Try.prog 19 #[.agg #[.int .i64 o, .int .i64 n, .int .i64 a, .int .i64 t, .slice A k c], .agg #[.int .i64 o', .int .i64 n', .int .i64 a', .int .i64 t', .slice (some ⟨w.heap.size, 0, none⟩) 3 3]]
      (w.alloc (.cells #[.int .u8 (b1.toNat : Int), .int .u8 (b2.toNat : Int), .int .u8 (b3.toNat : Int)] 5 fz)) fun e w' => e = .returned (.bool r) ∧ Fr0 w w' := by
  subst hr
  refine (refSame_any (h.fr0 ((Fr0.refl w).alloc _)) (lit_bytes w 5 [b1, b2, b3] (by simp) fz)).mono ?_
  rintro e w' ⟨rfl, hf⟩
  exact ⟨rfl, Fr0.trans ((Fr0.refl w).alloc _) hf⟩

set_option maxHeartbeats 2000000 in
set_option maxRecDepth 100000 in
theorem known23_any (w : World) : Calls Try.prog 8 #[] w fun e w' => e = .returned (.bool true) ∧ Fr0 w w' := by
  have hcv := fun (w : World) (C : Array Value) (n c : Nat) => Lib.run_convert_bytes_const (P := Try.prog) w 35 5 C n c Try.underlying35 Try.underlying5
  go_enter Try.func8, Try.ntmps8
  go_upto_region 12 with (first
    | (go_at_call 10; refine (texts_any _).mono ?_; rintro e w1 ⟨rfl, hf⟩; have F1 := Lib.hid hf; clear hf)
    | (go_at_call 9; refine (onew_any sameFn diffFn _ _).mono ?_; rintro e w2 ⟨p, A0, c0, rfl, ho, hp, hf⟩; have OA := Lib.hid (show OutV w2 p _ _ A0 c0 K0 from ho); have F2 := Lib.hid (Fr0.trans F1.out hf); have PP := Lib.hid (Nat.le_trans (F1.out).size hp); clear ho hp hf)
    | (have _q := OH; go_at_call 12; refine (tell_k (base := 1) (n := 3) sameFn diffFn OH.out ok6 (small_k _ rfl) (by decide) kt5 rfl rfl rfl).mono ?_; rintro e w9 ⟨A9, c9, Ad4, cd4, rfl, hf, ho, hr, ht⟩; have OI := Lib.hid (ho.fr0 ((Fr0.refl w9).alloc (.cells #[.int .i64 1, .int .i64 2, .int .i64 0, .int .i64 1, .slice Ad4 3 cd4] 37))); have J4 := Lib.hid (InsV.make (old := 1) (new := 2) (ack := 0) (trash := 1) hr ht); have J1 := Lib.hid (((H1.out).fr1 hf (OH.out).blk (by decide) (by decide)).fr0 ((Fr0.refl w9).alloc (.cells #[.int .i64 1, .int .i64 2, .int .i64 0, .int .i64 1, .slice Ad4 3 cd4] 37))); have J2 := Lib.hid (((H2.out).fr1 hf (OH.out).blk (by decide) (by decide)).fr0 ((Fr0.refl w9).alloc (.cells #[.int .i64 1, .int .i64 2, .int .i64 0, .int .i64 1, .slice Ad4 3 cd4] 37))); have J3 := Lib.hid (((H3.out).fr1 hf (OH.out).blk (by decide) (by decide)).fr0 ((Fr0.refl w9).alloc (.cells #[.int .i64 1, .int .i64 2, .int .i64 0, .int .i64 1, .slice Ad4 3 cd4] 37))); have FJ := Lib.hid ((Fr.new FH.out hf (.inr PP.out)).alloc (.cells #[.int .i64 1, .int .i64 2, .int .i64 0, .int .i64 1, .slice Ad4 3 cd4] 37)); clear hf ho hr ht)
    | (have _q := OF; go_at_call 12; refine (tell_k (base := 0) (n := 3) sameFn diffFn OF.out ok4 (small_k _ rfl) (by decide) kt4 rfl rfl rfl).mono ?_; rintro e w7 ⟨A7, c7, Ad3, cd3, rfl, hf, ho, hr, ht⟩; have OG := Lib.hid (ho.fr0 ((Fr0.refl w7).alloc (.cells #[.int .i64 1, .int .i64 2, .int .i64 0, .int .i64 0, .slice Ad3 3 cd3] 37))); have G3 := Lib.hid (InsV.make (old := 1) (new := 2) (ack := 0) (trash := 0) hr ht); have G1 := Lib.hid (((E1.out).fr1 hf (OF.out).blk (by decide) (by decide)).fr0 ((Fr0.refl w7).alloc (.cells #[.int .i64 1, .int .i64 2, .int .i64 0, .int .i64 0, .slice Ad3 3 cd3] 37))); have G2 := Lib.hid (((E2.out).fr1 hf (OF.out).blk (by decide) (by decide)).fr0 ((Fr0.refl w7).alloc (.cells #[.int .i64 1, .int .i64 2, .int .i64 0, .int .i64 0, .slice Ad3 3 cd3] 37))); have FG := Lib.hid ((Fr.new FF.out hf (.inr PP.out)).alloc (.cells #[.int .i64 1, .int .i64 2, .int .i64 0, .int .i64 0, .slice Ad3 3 cd3] 37)); clear hf ho hr ht)
    | (have _q := OD; go_at_call 12; refine (tell_k (base := 0) (n := 3) sameFn diffFn OD.out ok2 (small_k _ rfl) (by decide) kt3 rfl rfl rfl).mono ?_; rintro e w5 ⟨A5, c5, Ad2, cd2, rfl, hf, ho, hr, ht⟩; have OE := Lib.hid (ho.fr0 ((Fr0.refl w5).alloc (.cells #[.int .i64 0, .int .i64 1, .int .i64 0, .int .i64 0, .slice Ad2 3 cd2] 37))); have D2 := Lib.hid (InsV.make (old := 0) (new := 1) (ack := 0) (trash := 0) hr ht); have D1 := Lib.hid (((C1.out).fr1 hf (OD.out).blk (by decide) (by decide)).fr0 ((Fr0.refl w5).alloc (.cells #[.int .i64 0, .int .i64 1, .int .i64 0, .int .i64 0, .slice Ad2 3 cd2] 37))); have FE := Lib.hid ((Fr.new FD.out hf (.inr PP.out)).alloc (.cells #[.int .i64 0, .int .i64 1, .int .i64 0, .int .i64 0, .slice Ad2 3 cd2] 37)); clear hf ho hr ht)
    | (have _q := OC; go_at_call 12; refine (tell_k0 sameFn diffFn OC.out ok2 (small_k _ rfl) (by decide) kt2).mono ?_; rintro e w4 ⟨A4, c4, rfl, hf, ho⟩; have OD := Lib.hid (ho.fr0 ((Fr0.refl w4).alloc (.cells #[.int .i64 0, .int .i64 0, .int .i64 0, .int .i64 0, .slice none 0 0] 37))); have C1 := Lib.hid (((B1.out).fr1 hf (OC.out).blk (by decide) (by decide)).fr0 ((Fr0.refl w4).alloc (.cells #[.int .i64 0, .int .i64 0, .int .i64 0, .int .i64 0, .slice none 0 0] 37))); have FD := Lib.hid ((Fr.new FC.out hf (.inr PP.out)).alloc (.cells #[.int .i64 0, .int .i64 0, .int .i64 0, .int .i64 0, .slice none 0 0] 37)); clear hf ho)
    | (go_at_call 12; refine (tell_k (base := 0) (n := 0) sameFn diffFn OA.out (new_ok _) (small_k _ rfl) (by decide) kt1 rfl rfl rfl).mono ?_; rintro e w3 ⟨A3, c3, Ad1, cd1, rfl, hf, ho, hr, ht⟩; have OB := Lib.hid (show OutV _ p _ _ A3 c3 K1 from ho.fr0 ((Fr0.refl w3).alloc (.cells #[.int .i64 0, .int .i64 0, .int .i64 0, .int .i64 0, .slice Ad1 0 cd1] 37))); have A1 := Lib.hid (InsV.make (old := 0) (new := 0) (ack := 0) (trash := 0) hr ht); have FB := Lib.hid ((Fr.new F2.out hf (.inr PP.out)).alloc (.cells #[.int .i64 0, .int .i64 0, .int .i64 0, .int .i64 0, .slice Ad1 0 cd1] 37)); clear hf ho hr ht)
    | (have _q := OE; go_at_call 11; refine (oset_any OE.out (by decide) _).mono ?_; rintro e w6 ⟨rfl, hf, ho⟩; have OF := Lib.hid (show OutV w6 p _ _ _ _ K4 from ho); have E1 := Lib.hid ((D1.out).fr1 hf (OE.out).blk (by decide) (by decide)); have E2 := Lib.hid ((D2.out).fr1 hf (OE.out).blk (by decide) (by decide)); have FF := Lib.hid (Fr.new FE.out hf (.inr PP.out)); clear hf ho)
    | (go_at_call 11; refine (oset_any OB.out (by decide) _).mono ?_; rintro e w3' ⟨rfl, hf, ho⟩; have OC := Lib.hid (show OutV w3' p _ _ _ _ K2 from ho); have B1 := Lib.hid ((A1.out).fr1 hf (OB.out).blk (by decide) (by decide)); have FC := Lib.hid (Fr.new FB.out hf (.inr PP.out)); clear hf ho)
    | (go_at_call 13; refine (oheard_any OG.out (by decide) (by decide) 1).mono ?_; rintro e w8 ⟨rfl, hf, A8, c8, ho⟩; have OH := Lib.hid (show OutV w8 p _ _ A8 c8 K6 from ho); have H1 := Lib.hid ((G1.out).fr1 hf (OG.out).blk (by decide) (by decide)); have H2 := Lib.hid ((G2.out).fr1 hf (OG.out).blk (by decide) (by decide)); have H3 := Lib.hid ((G3.out).fr1 hf (OG.out).blk (by decide) (by decide)); have FH := Lib.hid (Fr.new FG.out hf (.inr PP.out)); clear hf ho))
  clear F1 F2 OA A1 OB FB B1 OC FC C1 OD FD D1 D2 OE FE E1 E2 OF FF G1 G2 G3 OG FG H1 H2 H3 OH FH PP OI
  generalize (w9.alloc (.cells #[.int .i64 1, .int .i64 2, .int .i64 0, .int .i64 1, .slice Ad4 3 cd4] 37)) = wj at *
  generalize w9.heap.size = q4 at *
  generalize w7.heap.size = q3 at *
  generalize w5.heap.size = q2 at *
  generalize w3.heap.size = q1 at *
  have a0 : wj.cell? ⟨q1, 0, none⟩ = some (.int .i64 0) := ((J1.out).blk).cell 0 rfl
  have a1 : wj.cell? ⟨q1, 1, none⟩ = some (.int .i64 0) := ((J1.out).blk).cell 1 rfl
  have a2 : wj.cell? ⟨q1, 2, none⟩ = some (.int .i64 0) := ((J1.out).blk).cell 2 rfl
  have a3 : wj.cell? ⟨q1, 3, none⟩ = some (.int .i64 0) := ((J1.out).blk).cell 3 rfl
  have a4 : wj.cell? ⟨q1, 4, none⟩ = some (.slice Ad1 0 cd1) := ((J1.out).blk).cell 4 rfl
  go_wp2_with (first
    | (have _q := T3; go_at_call 19; refine (same_lit ((J4.out).fr0 Q.out).rd 1 2 0 1 98 62 99 _ true (by decide)).mono ?_; rintro e w13 ⟨rfl, hf⟩; replace Q := Lib.hid (Fr0.trans Q.out hf); clear hf)
    | (have _q := T2; go_at_call 19; refine (same_lit ((J3.out).fr0 Q.out).rd 1 2 0 0 98 62 99 _ true (by decide)).mono ?_; rintro e w12 ⟨rfl, hf⟩; replace Q := Lib.hid (Fr0.trans Q.out hf); have T3 := Lib.hid True.intro; have d0 : w12.cell? ⟨q4, 0, none⟩ = some (.int .i64 1) := (((J4.out).fr0 Q.out).blk).cell 0 rfl; have d1 : w12.cell? ⟨q4, 1, none⟩ = some (.int .i64 2) := (((J4.out).fr0 Q.out).blk).cell 1 rfl; have d2 : w12.cell? ⟨q4, 2, none⟩ = some (.int .i64 0) := (((J4.out).fr0 Q.out).blk).cell 2 rfl; have d3 : w12.cell? ⟨q4, 3, none⟩ = some (.int .i64 1) := (((J4.out).fr0 Q.out).blk).cell 3 rfl; have d4 : w12.cell? ⟨q4, 4, none⟩ = some (.slice Ad4 3 cd4) := (((J4.out).fr0 Q.out).blk).cell 4 rfl; clear hf)
    | (have _q := T1; go_at_call 19; refine (same_lit ((J2.out).fr0 Q.out).rd 0 1 0 0 97 62 98 _ true (by decide)).mono ?_; rintro e w11 ⟨rfl, hf⟩; replace Q := Lib.hid (Fr0.trans Q.out hf); have T2 := Lib.hid True.intro; have c0 : w11.cell? ⟨q3, 0, none⟩ = some (.int .i64 1) := (((J3.out).fr0 Q.out).blk).cell 0 rfl; have c1 : w11.cell? ⟨q3, 1, none⟩ = some (.int .i64 2) := (((J3.out).fr0 Q.out).blk).cell 1 rfl; have c2 : w11.cell? ⟨q3, 2, none⟩ = some (.int .i64 0) := (((J3.out).fr0 Q.out).blk).cell 2 rfl; have c3 : w11.cell? ⟨q3, 3, none⟩ = some (.int .i64 0) := (((J3.out).fr0 Q.out).blk).cell 3 rfl; have c4 : w11.cell? ⟨q3, 4, none⟩ = some (.slice Ad3 3 cd3) := (((J3.out).fr0 Q.out).blk).cell 4 rfl; clear hf)
    | (go_at_call 19; refine (refSame_any (J1.out).rd (RdB.nil wj)).mono ?_; rintro e w10 ⟨he, hf⟩; rw [show alike 0 0 0 0 [] 0 0 0 0 [] = true from by decide] at he; subst he; have Q := Lib.hid hf; have T1 := Lib.hid True.intro; have b0 : w10.cell? ⟨q2, 0, none⟩ = some (.int .i64 0) := (((J2.out).fr0 hf).blk).cell 0 rfl; have b1 : w10.cell? ⟨q2, 1, none⟩ = some (.int .i64 1) := (((J2.out).fr0 hf).blk).cell 1 rfl; have b2 : w10.cell? ⟨q2, 2, none⟩ = some (.int .i64 0) := (((J2.out).fr0 hf).blk).cell 2 rfl; have b3 : w10.cell? ⟨q2, 3, none⟩ = some (.int .i64 0) := (((J2.out).fr0 hf).blk).cell 3 rfl; have b4 : w10.cell? ⟨q2, 4, none⟩ = some (.slice Ad2 3 cd2) := (((J2.out).fr0 hf).blk).cell 4 rfl; clear hf))
  go_ret
  exact ⟨rfl, (FJ.out).trans Q.out⟩
end Go.Proofs.Ytomdlfeaecknfaa
