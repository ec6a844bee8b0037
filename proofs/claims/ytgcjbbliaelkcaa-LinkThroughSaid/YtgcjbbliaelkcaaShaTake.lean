/- A block, taken into eight words. Conditions stand in the statements. -/
import Derived.Test.YtgcjbbliaelkcaaShaSpread
import Derived.Test.YtgcjbbliaelkcaaSteps
set_option linter.unusedSimpArgs false
namespace Go.Proofs.Ytgcjbbliaelkcaa
open Go.RowKit

def h8c (x : H8) : Array Value := #[.int .u32 (x.a : Nat), .int .u32 (x.b : Nat), .int .u32 (x.c : Nat), .int .u32 (x.d : Nat), .int .u32 (x.e : Nat), .int .u32 (x.f : Nat), .int .u32 (x.g : Nat), .int .u32 (x.h : Nat)]
theorem h8_wA (x : H8) : wA 8 x.list = h8c x := rfl
theorem h8_one (x : H8) : (h8c x).all (·.oneCell') = true := by simp [h8c, Value.oneCell']
theorem inv_eq (x : Nat) (hx : x < 4294967296) : bits .xor .u32 IntKind.u32.max (x : Int) = ((inv32 x : Nat) : Int) := by
  have h := u32_xor_nat 4294967295 x (by omega) hx
  have e : 4294967295 ^^^ x = inv32 x := by
    have h1 := congrArg BitVec.toNat (BitVec.allOnes_xor (x := BitVec.ofNat 32 x))
    rw [BitVec.toNat_xor, BitVec.toNat_not, BitVec.toNat_allOnes, BitVec.toNat_ofNat, Nat.mod_eq_of_lt hx] at h1
    unfold inv32
    simpa using h1
  rw [e] at h
  exact h
theorem and_lt {a b : Nat} (ha : a < 4294967296) : a &&& b < 4294967296 := Nat.lt_of_le_of_lt Nat.and_le_left ha
theorem wA_set {n : Nat} {l : List Nat} {i : Nat} (h : i < l.length) (x : Nat) : (wA n l).setIfInBounds i (Value.int .u32 (x : Int)) = wA n (l.set i x) := by
  unfold wA wcells
  rw [List.setIfInBounds_toArray, List.set_append_left _ _ (by simpa using h), List.map_set, List.length_set]
theorem half_len {a b : List Nat} {n i : Nat} (ha : a.length = n) (hb : b.length = n) (hi : i ≤ n) : (a.take i ++ b.drop i).length = n := by simp; omega
theorem half_at {a b : List Nat} {n i : Nat} (ha : a.length = n) (hi : i < n) : (a.take i ++ b.drop i).getD i 0 = b.getD i 0 := by
  simp only [List.getD_eq_getElem?_getD]
  rw [List.getElem?_append_right (by simp; omega)]
  congr 1
  simp only [List.length_take, List.getElem?_drop]
  congr 1
  omega
theorem half_set {a b : List Nat} {n i : Nat} (ha : a.length = n) (hb : b.length = n) (hi : i < n) : (a.take i ++ b.drop i).set i (a.getD i 0) = a.take (i + 1) ++ b.drop (i + 1) := by
  have h1 : (a.take i).length = i := by simp; omega
  obtain ⟨c, r, hr⟩ : ∃ c r, b.drop i = c :: r := by
    cases e : b.drop i with
    | nil => have := congrArg List.length e; simp at this; omega
    | cons c r => exact ⟨c, r, rfl⟩
  have h2 : b.drop (i + 1) = r := by rw [show i + 1 = i + 1 from rfl, ← List.drop_drop, hr]; rfl
  rw [hr, h2, List.set_append_right _ _ (by omega), h1, Nat.sub_self, List.take_add_one, show a[i]? = some (a.getD i 0) from by simp [List.getD, ha, hi]]
  simp
set_option maxHeartbeats 4000000 in
set_option maxRecDepth 10000 in
theorem take_any {g off c gk ok : Nat} {d : List UInt8} {w : World} {x : H8} (hx : x.ok) (h : RdB w (.slice (some ⟨g, off, none⟩) 64 c) d) (hd : d.length = 64) (ks : List Nat) (hk : ∀ W, Fr0 w W → ∀ i, i < 64 → W.cell? ⟨gk, ok + i, none⟩ = some (.int .u32 (ks.getD i 0 : Nat))) (hkl : ∀ i, ks.getD i 0 < 4294967296) :
    Calls Try.prog 62 #[.agg (h8c x), .slice (some ⟨g, off, none⟩) 64 c, .pointer (some ⟨gk, ok, none⟩)] w fun e w' => e = .returned (.agg (h8c (takeN x d ks))) ∧ Fr0 w w' := by
  have HD := Lib.hid hd
  have HR := Lib.hid h
  have HK := Lib.hid hk
  have HX := Lib.hid hx
  have HKL := Lib.hid hkl
  clear h hd hk hx hkl
  have HS := Lib.hid (fun (W : World) (hf : Fr0 w W) => spread_any (RdB.fr0 (show RdB w (.slice (some ⟨g, off, none⟩) 64 c) d from HR.out) hf) HD.out)
  have HB3 := Lib.hid (Blk.new w (h8c x) 119)
  obtain ⟨xs, hxs⟩ : ∃ xs, xs = h8c x := ⟨_, rfl⟩
  rw [← hxs]
  have HXS := Lib.hid hxs
  clear hxs
  go_enter Try.func62, Try.ntmps62
  go_upto_region 1 with (fail)
  go_cut [7, 8] (fun s7 s8 wx => ∃ g7 g8 : Nat, s7 = .pointer (some ⟨g7, 0, none⟩) ∧ s8 = .pointer (some ⟨g8, 0, none⟩) ∧ g7 ≠ g8 ∧ w.heap.size + 2 ≤ g7 ∧ w.heap.size + 2 ≤ g8 ∧ Blk wx w.heap.size (h8c x) 119 ∧ Blk wx (w.heap.size + 1) (wA 8 []) 119 ∧ Blk wx g7 (wA 64 (spW d 64)) 121 ∧ Blk wx g8 (h8c x) 119 ∧ Fr0 w wx)
  case first =>
    have hXS := HXS.out
    subst hXS
    have hi64 : (Try.prog.info? 121).map (·.size) = some (wA 64 (spW d 64)).size := by rw [wA_size (Nat.le_of_eq (spW_len d 64))]; kernel_rfl
    have ho64 : (wA 64 []).size = (wA 64 (spW d 64)).size := by rw [wA_size (l := spW d 64) (Nat.le_of_eq (spW_len d 64)), wA_size (l := []) (Nat.zero_le _)]
    have h1c := wA_one 64 (spW d 64)
    have hi8 : (Try.prog.info? 119).map (·.size) = some (h8c x).size := by kernel_rfl
    have ho8 : (wA 8 []).size = (h8c x).size := rfl
    have h1x := h8_one x
    have B3 := Lib.hid (((HB3.out).alloc (.cells (wA 8 []) 119)).drew)
    have B6 := Lib.hid (Blk.drew (show Blk ((w.alloc (.cells (h8c x) 119)).alloc (.cells (wA 8 []) 119)) (w.heap.size + 1) (wA 8 []) 119 from by
      have h := Blk.new (w.alloc (.cells (h8c x) 119)) (wA 8 []) 119
      rw [show (w.alloc (.cells (h8c x) 119)).heap.size = w.heap.size + 1 from Array.size_push _] at h
      exact h))
    have FW := Lib.hid ((((Fr0.refl w).alloc (.cells (h8c x) 119)).alloc (.cells (wA 8 []) 119)).drew)
    refine wp_region_held_drew (S := (fun W => Blk W w.heap.size (h8c x) 119)) (by kernel_rfl) B3.out (fun hHeld => ?_)
    refine wpAnyH_take (i := 0) rfl (by kernel_rfl) (by kernel_rfl) (by kernel_rfl) (fun _ _ _ h => h) (yields_move rfl _ rfl) B3.out ?_
    try simp only [Act.put, List.setIfInBounds_toArray, List.set_cons_zero, List.set_cons_succ]
    refine wpAnyH_take (i := 2) rfl (by kernel_rfl) (by kernel_rfl) (by kernel_rfl) (fun _ _ _ h => h) (yields_load_blk rfl 119 _ rfl w.heap.size rfl 119 (h8c x) (fun _ h => h) _ Try.underlying119 rfl hi8) B3.out ?_
    try simp only [Act.put, List.setIfInBounds_toArray, List.set_cons_zero, List.set_cons_succ]
    refine wpAnyH_ready (rs := [1, 3, 4]) (by kernel_rfl) (by simp) (consH rfl rfl (fun K hK => ?_) (consH rfl rfl (fun K hK => ?_) (consH rfl rfl (fun K hK => ?_) AllReadyH.nil)))
    ·
      have _hI : True := trivial
      clear _hI
      go_simp
      refine (HS.out _ FW.out).mono ?_
      rintro e w5 ⟨rfl, hf⟩
      replace B3 := Lib.hid ((B3.out).fr0 hf)
      replace B6 := Lib.hid ((B6.out).fr0 hf)
      replace FW := Lib.hid (Fr0.trans FW.out hf)
      have z1 := hf.size
      try simp at z1
      clear hf
      refine hK.out _ _ (B3.out) ?_
      clear hK
      try simp only [Act.put, List.setIfInBounds_toArray, List.set_cons_zero, List.set_cons_succ]
      refine wpAnyH_ready (rs := [3, 4]) (by kernel_rfl) (by simp) (consH rfl rfl (fun K hK => ?_) (consH rfl rfl (fun K hK => ?_) AllReadyH.nil))
      ·
        have _hI : True := trivial
        clear _hI
        refine wp_alloc_blk 121 rfl (wA 64 []) (fun _ => by kernel_rfl) ?_
        intro g7 W7 hB hf hl7
        try simp at hl7
        replace B3 := Lib.hid ((B3.out).fr0 hf)
        replace B6 := Lib.hid ((B6.out).fr0 hf)
        replace FW := Lib.hid (Fr0.trans FW.out hf)
        have z2 := hf.size
        try simp at z2
        clear hf
        have B7 := Lib.hid hB
        have lB7 := (B7.out).lt
        clear hB
        refine hK.out _ _ (B3.out) ?_
        clear hK
        try simp only [Act.put, List.setIfInBounds_toArray, List.set_cons_zero, List.set_cons_succ]
        refine wpAnyH_ready (rs := [4]) (by kernel_rfl) (by simp) (consH rfl rfl (fun K hK => ?_) AllReadyH.nil)
        have _hI : True := trivial
        clear _hI
        refine wp_alloc_blk 119 rfl (wA 8 []) (fun _ => by kernel_rfl) ?_
        intro g8 W8 hB hf hl8
        try simp at hl8
        replace B3 := Lib.hid ((B3.out).fr0 hf)
        replace B6 := Lib.hid ((B6.out).fr0 hf)
        replace B7 := Lib.hid ((B7.out).fr0 hf)
        replace FW := Lib.hid (Fr0.trans FW.out hf)
        have z3 := hf.size
        try simp at z3
        clear hf
        have B8 := Lib.hid hB
        have lB8 := (B8.out).lt
        clear hB
        refine hK.out _ _ (B3.out) ?_
        clear hK
        try simp only [Act.put, List.setIfInBounds_toArray, List.set_cons_zero, List.set_cons_succ]
        refine wpAnyH_ready (rs := [5]) (by kernel_rfl) (by simp) (consH rfl rfl (fun K hK => ?_) AllReadyH.nil)
        have _hI : True := trivial
        clear _hI
        refine wp_store_blk ?qty1 ?qex1 ?qey1 ?qho1 ?qgg1 ?qcc1 ?qhx1 ?qhy1 ?qtt1 ?qold1 ?qhb1 ?qhi1 ?qhd1 ?qh11 ?qre1
        case qcc1 => exact (wA 64 (spW d 64))
        case qty1 => exact 121
        case qtt1 => exact 121
        case qgg1 => exact g7
        case qold1 => exact (wA 64 [])
        case qex1 => exact (.tmp 7)
        case qey1 => exact (.tmp 15)
        case qho1 => rfl
        case qhb1 => exact B7.out
        case qhi1 => exact hi64
        case qhd1 => exact ho64
        case qh11 => exact h1c
        case qhx1 => rfl
        case qhy1 => rfl
        intro V7 hB hf
        replace B3 := Lib.hid ((B3.out).fr1 hf (by omega))
        replace B6 := Lib.hid ((B6.out).fr1 hf (by omega))
        replace B8 := Lib.hid ((B8.out).fr1 hf (by omega))
        replace FW := Lib.hid (Fr0.new FW.out hf (by omega))
        have z4 := hf.size
        try simp at z4
        clear hf
        replace B7 := Lib.hid hB
        clear hB
        refine hK.out _ _ (B3.out) ?_
        clear hK
        try simp only [Act.put, List.setIfInBounds_toArray, List.set_cons_zero, List.set_cons_succ]
        refine wpAnyH_ready (rs := [6]) (by kernel_rfl) (by simp) (consH rfl rfl (fun K hK => ?_) AllReadyH.nil)
        have _hI : True := trivial
        clear _hI
        refine wp_store_blk ?qty2 ?qex2 ?qey2 ?qho2 ?qgg2 ?qcc2 ?qhx2 ?qhy2 ?qtt2 ?qold2 ?qhb2 ?qhi2 ?qhd2 ?qh12 ?qre2
        case qcc2 => exact (h8c x)
        case qty2 => exact 119
        case qtt2 => exact 119
        case qgg2 => exact g8
        case qold2 => exact (wA 8 [])
        case qex2 => exact (.tmp 8)
        case qey2 => exact (.tmp 16)
        case qho2 => rfl
        case qhb2 => exact B8.out
        case qhi2 => exact hi8
        case qhd2 => exact ho8
        case qh12 => exact h1x
        case qhx2 => rfl
        case qhy2 => rfl
        intro V8 hB hf
        replace B3 := Lib.hid ((B3.out).fr1 hf (by omega))
        replace B6 := Lib.hid ((B6.out).fr1 hf (by omega))
        replace B7 := Lib.hid ((B7.out).fr1 hf (by omega))
        replace FW := Lib.hid (Fr0.new FW.out hf (by omega))
        have z5 := hf.size
        try simp at z5
        clear hf
        replace B8 := Lib.hid hB
        clear hB
        refine hK.out _ _ (B3.out) ?_
        clear hK
        try simp only [Act.put, List.setIfInBounds_toArray, List.set_cons_zero, List.set_cons_succ]
        refine wpAnyH_done (by kernel_rfl) ?_ _
        go_wp2_with fail
        go_meet
        exact ⟨g7, g8, rfl, rfl, by omega, by omega, by omega, B3.out, B6.out, B7.out, B8.out, FW.out⟩
      ·
        have _hI : True := trivial
        clear _hI
        refine wp_alloc_blk 119 rfl (wA 8 []) (fun _ => by kernel_rfl) ?_
        intro g8 W8 hB hf hl8
        try simp at hl8
        replace B3 := Lib.hid ((B3.out).fr0 hf)
        replace B6 := Lib.hid ((B6.out).fr0 hf)
        replace FW := Lib.hid (Fr0.trans FW.out hf)
        have z2 := hf.size
        try simp at z2
        clear hf
        have B8 := Lib.hid hB
        have lB8 := (B8.out).lt
        clear hB
        refine hK.out _ _ (B3.out) ?_
        clear hK
        try simp only [Act.put, List.setIfInBounds_toArray, List.set_cons_zero, List.set_cons_succ]
        refine wpAnyH_ready (rs := [3]) (by kernel_rfl) (by simp) (consH rfl rfl (fun K hK => ?_) AllReadyH.nil)
        have _hI : True := trivial
        clear _hI
        refine wp_alloc_blk 121 rfl (wA 64 []) (fun _ => by kernel_rfl) ?_
        intro g7 W7 hB hf hl7
        try simp at hl7
        replace B3 := Lib.hid ((B3.out).fr0 hf)
        replace B6 := Lib.hid ((B6.out).fr0 hf)
        replace B8 := Lib.hid ((B8.out).fr0 hf)
        replace FW := Lib.hid (Fr0.trans FW.out hf)
        have z3 := hf.size
        try simp at z3
        clear hf
        have B7 := Lib.hid hB
        have lB7 := (B7.out).lt
        clear hB
        refine hK.out _ _ (B3.out) ?_
        clear hK
        try simp only [Act.put, List.setIfInBounds_toArray, List.set_cons_zero, List.set_cons_succ]
        refine wpAnyH_ready (rs := [5]) (by kernel_rfl) (by simp) (consH rfl rfl (fun K hK => ?_) AllReadyH.nil)
        have _hI : True := trivial
        clear _hI
        refine wp_store_blk ?qty3 ?qex3 ?qey3 ?qho3 ?qgg3 ?qcc3 ?qhx3 ?qhy3 ?qtt3 ?qold3 ?qhb3 ?qhi3 ?qhd3 ?qh13 ?qre3
        case qcc3 => exact (wA 64 (spW d 64))
        case qty3 => exact 121
        case qtt3 => exact 121
        case qgg3 => exact g7
        case qold3 => exact (wA 64 [])
        case qex3 => exact (.tmp 7)
        case qey3 => exact (.tmp 15)
        case qho3 => rfl
        case qhb3 => exact B7.out
        case qhi3 => exact hi64
        case qhd3 => exact ho64
        case qh13 => exact h1c
        case qhx3 => rfl
        case qhy3 => rfl
        intro V7 hB hf
        replace B3 := Lib.hid ((B3.out).fr1 hf (by omega))
        replace B6 := Lib.hid ((B6.out).fr1 hf (by omega))
        replace B8 := Lib.hid ((B8.out).fr1 hf (by omega))
        replace FW := Lib.hid (Fr0.new FW.out hf (by omega))
        have z4 := hf.size
        try simp at z4
        clear hf
        replace B7 := Lib.hid hB
        clear hB
        refine hK.out _ _ (B3.out) ?_
        clear hK
        try simp only [Act.put, List.setIfInBounds_toArray, List.set_cons_zero, List.set_cons_succ]
        refine wpAnyH_ready (rs := [6]) (by kernel_rfl) (by simp) (consH rfl rfl (fun K hK => ?_) AllReadyH.nil)
        have _hI : True := trivial
        clear _hI
        refine wp_store_blk ?qty4 ?qex4 ?qey4 ?qho4 ?qgg4 ?qcc4 ?qhx4 ?qhy4 ?qtt4 ?qold4 ?qhb4 ?qhi4 ?qhd4 ?qh14 ?qre4
        case qcc4 => exact (h8c x)
        case qty4 => exact 119
        case qtt4 => exact 119
        case qgg4 => exact g8
        case qold4 => exact (wA 8 [])
        case qex4 => exact (.tmp 8)
        case qey4 => exact (.tmp 16)
        case qho4 => rfl
        case qhb4 => exact B8.out
        case qhi4 => exact hi8
        case qhd4 => exact ho8
        case qh14 => exact h1x
        case qhx4 => rfl
        case qhy4 => rfl
        intro V8 hB hf
        replace B3 := Lib.hid ((B3.out).fr1 hf (by omega))
        replace B6 := Lib.hid ((B6.out).fr1 hf (by omega))
        replace B7 := Lib.hid ((B7.out).fr1 hf (by omega))
        replace FW := Lib.hid (Fr0.new FW.out hf (by omega))
        have z5 := hf.size
        try simp at z5
        clear hf
        replace B8 := Lib.hid hB
        clear hB
        refine hK.out _ _ (B3.out) ?_
        clear hK
        try simp only [Act.put, List.setIfInBounds_toArray, List.set_cons_zero, List.set_cons_succ]
        refine wpAnyH_done (by kernel_rfl) ?_ _
        go_wp2_with fail
        go_meet
        exact ⟨g7, g8, rfl, rfl, by omega, by omega, by omega, B3.out, B6.out, B7.out, B8.out, FW.out⟩
    ·
      have _hI : True := trivial
      clear _hI
      refine wp_alloc_blk 121 rfl (wA 64 []) (fun _ => by kernel_rfl) ?_
      intro g7 W7 hB hf hl7
      try simp at hl7
      replace B3 := Lib.hid ((B3.out).fr0 hf)
      replace B6 := Lib.hid ((B6.out).fr0 hf)
      replace FW := Lib.hid (Fr0.trans FW.out hf)
      have z1 := hf.size
      try simp at z1
      clear hf
      have B7 := Lib.hid hB
      have lB7 := (B7.out).lt
      clear hB
      refine hK.out _ _ (B3.out) ?_
      clear hK
      try simp only [Act.put, List.setIfInBounds_toArray, List.set_cons_zero, List.set_cons_succ]
      refine wpAnyH_ready (rs := [1, 4]) (by kernel_rfl) (by simp) (consH rfl rfl (fun K hK => ?_) (consH rfl rfl (fun K hK => ?_) AllReadyH.nil))
      ·
        have _hI : True := trivial
        clear _hI
        go_simp
        refine (HS.out _ FW.out).mono ?_
        rintro e w5 ⟨rfl, hf⟩
        replace B3 := Lib.hid ((B3.out).fr0 hf)
        replace B6 := Lib.hid ((B6.out).fr0 hf)
        replace B7 := Lib.hid ((B7.out).fr0 hf)
        replace FW := Lib.hid (Fr0.trans FW.out hf)
        have z2 := hf.size
        try simp at z2
        clear hf
        refine hK.out _ _ (B3.out) ?_
        clear hK
        try simp only [Act.put, List.setIfInBounds_toArray, List.set_cons_zero, List.set_cons_succ]
        refine wpAnyH_ready (rs := [4]) (by kernel_rfl) (by simp) (consH rfl rfl (fun K hK => ?_) AllReadyH.nil)
        have _hI : True := trivial
        clear _hI
        refine wp_alloc_blk 119 rfl (wA 8 []) (fun _ => by kernel_rfl) ?_
        intro g8 W8 hB hf hl8
        try simp at hl8
        replace B3 := Lib.hid ((B3.out).fr0 hf)
        replace B6 := Lib.hid ((B6.out).fr0 hf)
        replace B7 := Lib.hid ((B7.out).fr0 hf)
        replace FW := Lib.hid (Fr0.trans FW.out hf)
        have z3 := hf.size
        try simp at z3
        clear hf
        have B8 := Lib.hid hB
        have lB8 := (B8.out).lt
        clear hB
        refine hK.out _ _ (B3.out) ?_
        clear hK
        try simp only [Act.put, List.setIfInBounds_toArray, List.set_cons_zero, List.set_cons_succ]
        refine wpAnyH_ready (rs := [5]) (by kernel_rfl) (by simp) (consH rfl rfl (fun K hK => ?_) AllReadyH.nil)
        have _hI : True := trivial
        clear _hI
        refine wp_store_blk ?qty5 ?qex5 ?qey5 ?qho5 ?qgg5 ?qcc5 ?qhx5 ?qhy5 ?qtt5 ?qold5 ?qhb5 ?qhi5 ?qhd5 ?qh15 ?qre5
        case qcc5 => exact (wA 64 (spW d 64))
        case qty5 => exact 121
        case qtt5 => exact 121
        case qgg5 => exact g7
        case qold5 => exact (wA 64 [])
        case qex5 => exact (.tmp 7)
        case qey5 => exact (.tmp 15)
        case qho5 => rfl
        case qhb5 => exact B7.out
        case qhi5 => exact hi64
        case qhd5 => exact ho64
        case qh15 => exact h1c
        case qhx5 => rfl
        case qhy5 => rfl
        intro V7 hB hf
        replace B3 := Lib.hid ((B3.out).fr1 hf (by omega))
        replace B6 := Lib.hid ((B6.out).fr1 hf (by omega))
        replace B8 := Lib.hid ((B8.out).fr1 hf (by omega))
        replace FW := Lib.hid (Fr0.new FW.out hf (by omega))
        have z4 := hf.size
        try simp at z4
        clear hf
        replace B7 := Lib.hid hB
        clear hB
        refine hK.out _ _ (B3.out) ?_
        clear hK
        try simp only [Act.put, List.setIfInBounds_toArray, List.set_cons_zero, List.set_cons_succ]
        refine wpAnyH_ready (rs := [6]) (by kernel_rfl) (by simp) (consH rfl rfl (fun K hK => ?_) AllReadyH.nil)
        have _hI : True := trivial
        clear _hI
        refine wp_store_blk ?qty6 ?qex6 ?qey6 ?qho6 ?qgg6 ?qcc6 ?qhx6 ?qhy6 ?qtt6 ?qold6 ?qhb6 ?qhi6 ?qhd6 ?qh16 ?qre6
        case qcc6 => exact (h8c x)
        case qty6 => exact 119
        case qtt6 => exact 119
        case qgg6 => exact g8
        case qold6 => exact (wA 8 [])
        case qex6 => exact (.tmp 8)
        case qey6 => exact (.tmp 16)
        case qho6 => rfl
        case qhb6 => exact B8.out
        case qhi6 => exact hi8
        case qhd6 => exact ho8
        case qh16 => exact h1x
        case qhx6 => rfl
        case qhy6 => rfl
        intro V8 hB hf
        replace B3 := Lib.hid ((B3.out).fr1 hf (by omega))
        replace B6 := Lib.hid ((B6.out).fr1 hf (by omega))
        replace B7 := Lib.hid ((B7.out).fr1 hf (by omega))
        replace FW := Lib.hid (Fr0.new FW.out hf (by omega))
        have z5 := hf.size
        try simp at z5
        clear hf
        replace B8 := Lib.hid hB
        clear hB
        refine hK.out _ _ (B3.out) ?_
        clear hK
        try simp only [Act.put, List.setIfInBounds_toArray, List.set_cons_zero, List.set_cons_succ]
        refine wpAnyH_done (by kernel_rfl) ?_ _
        go_wp2_with fail
        go_meet
        exact ⟨g7, g8, rfl, rfl, by omega, by omega, by omega, B3.out, B6.out, B7.out, B8.out, FW.out⟩
      ·
        have _hI : True := trivial
        clear _hI
        refine wp_alloc_blk 119 rfl (wA 8 []) (fun _ => by kernel_rfl) ?_
        intro g8 W8 hB hf hl8
        try simp at hl8
        replace B3 := Lib.hid ((B3.out).fr0 hf)
        replace B6 := Lib.hid ((B6.out).fr0 hf)
        replace B7 := Lib.hid ((B7.out).fr0 hf)
        replace FW := Lib.hid (Fr0.trans FW.out hf)
        have z2 := hf.size
        try simp at z2
        clear hf
        have B8 := Lib.hid hB
        have lB8 := (B8.out).lt
        clear hB
        refine hK.out _ _ (B3.out) ?_
        clear hK
        try simp only [Act.put, List.setIfInBounds_toArray, List.set_cons_zero, List.set_cons_succ]
        refine wpAnyH_ready (rs := [1]) (by kernel_rfl) (by simp) (consH rfl rfl (fun K hK => ?_) AllReadyH.nil)
        have _hI : True := trivial
        clear _hI
        go_simp
        refine (HS.out _ FW.out).mono ?_
        rintro e w5 ⟨rfl, hf⟩
        replace B3 := Lib.hid ((B3.out).fr0 hf)
        replace B6 := Lib.hid ((B6.out).fr0 hf)
        replace B7 := Lib.hid ((B7.out).fr0 hf)
        replace B8 := Lib.hid ((B8.out).fr0 hf)
        replace FW := Lib.hid (Fr0.trans FW.out hf)
        have z3 := hf.size
        try simp at z3
        clear hf
        refine hK.out _ _ (B3.out) ?_
        clear hK
        try simp only [Act.put, List.setIfInBounds_toArray, List.set_cons_zero, List.set_cons_succ]
        refine wpAnyH_ready (rs := [5]) (by kernel_rfl) (by simp) (consH rfl rfl (fun K hK => ?_) AllReadyH.nil)
        have _hI : True := trivial
        clear _hI
        refine wp_store_blk ?qty7 ?qex7 ?qey7 ?qho7 ?qgg7 ?qcc7 ?qhx7 ?qhy7 ?qtt7 ?qold7 ?qhb7 ?qhi7 ?qhd7 ?qh17 ?qre7
        case qcc7 => exact (wA 64 (spW d 64))
        case qty7 => exact 121
        case qtt7 => exact 121
        case qgg7 => exact g7
        case qold7 => exact (wA 64 [])
        case qex7 => exact (.tmp 7)
        case qey7 => exact (.tmp 15)
        case qho7 => rfl
        case qhb7 => exact B7.out
        case qhi7 => exact hi64
        case qhd7 => exact ho64
        case qh17 => exact h1c
        case qhx7 => rfl
        case qhy7 => rfl
        intro V7 hB hf
        replace B3 := Lib.hid ((B3.out).fr1 hf (by omega))
        replace B6 := Lib.hid ((B6.out).fr1 hf (by omega))
        replace B8 := Lib.hid ((B8.out).fr1 hf (by omega))
        replace FW := Lib.hid (Fr0.new FW.out hf (by omega))
        have z4 := hf.size
        try simp at z4
        clear hf
        replace B7 := Lib.hid hB
        clear hB
        refine hK.out _ _ (B3.out) ?_
        clear hK
        try simp only [Act.put, List.setIfInBounds_toArray, List.set_cons_zero, List.set_cons_succ]
        refine wpAnyH_ready (rs := [6]) (by kernel_rfl) (by simp) (consH rfl rfl (fun K hK => ?_) AllReadyH.nil)
        have _hI : True := trivial
        clear _hI
        refine wp_store_blk ?qty8 ?qex8 ?qey8 ?qho8 ?qgg8 ?qcc8 ?qhx8 ?qhy8 ?qtt8 ?qold8 ?qhb8 ?qhi8 ?qhd8 ?qh18 ?qre8
        case qcc8 => exact (h8c x)
        case qty8 => exact 119
        case qtt8 => exact 119
        case qgg8 => exact g8
        case qold8 => exact (wA 8 [])
        case qex8 => exact (.tmp 8)
        case qey8 => exact (.tmp 16)
        case qho8 => rfl
        case qhb8 => exact B8.out
        case qhi8 => exact hi8
        case qhd8 => exact ho8
        case qh18 => exact h1x
        case qhx8 => rfl
        case qhy8 => rfl
        intro V8 hB hf
        replace B3 := Lib.hid ((B3.out).fr1 hf (by omega))
        replace B6 := Lib.hid ((B6.out).fr1 hf (by omega))
        replace B7 := Lib.hid ((B7.out).fr1 hf (by omega))
        replace FW := Lib.hid (Fr0.new FW.out hf (by omega))
        have z5 := hf.size
        try simp at z5
        clear hf
        replace B8 := Lib.hid hB
        clear hB
        refine hK.out _ _ (B3.out) ?_
        clear hK
        try simp only [Act.put, List.setIfInBounds_toArray, List.set_cons_zero, List.set_cons_succ]
        refine wpAnyH_done (by kernel_rfl) ?_ _
        go_wp2_with fail
        go_meet
        exact ⟨g7, g8, rfl, rfl, by omega, by omega, by omega, B3.out, B6.out, B7.out, B8.out, FW.out⟩
    ·
      have _hI : True := trivial
      clear _hI
      refine wp_alloc_blk 119 rfl (wA 8 []) (fun _ => by kernel_rfl) ?_
      intro g8 W8 hB hf hl8
      try simp at hl8
      replace B3 := Lib.hid ((B3.out).fr0 hf)
      replace B6 := Lib.hid ((B6.out).fr0 hf)
      replace FW := Lib.hid (Fr0.trans FW.out hf)
      have z1 := hf.size
      try simp at z1
      clear hf
      have B8 := Lib.hid hB
      have lB8 := (B8.out).lt
      clear hB
      refine hK.out _ _ (B3.out) ?_
      clear hK
      try simp only [Act.put, List.setIfInBounds_toArray, List.set_cons_zero, List.set_cons_succ]
      refine wpAnyH_ready (rs := [1, 3]) (by kernel_rfl) (by simp) (consH rfl rfl (fun K hK => ?_) (consH rfl rfl (fun K hK => ?_) AllReadyH.nil))
      ·
        have _hI : True := trivial
        clear _hI
        go_simp
        refine (HS.out _ FW.out).mono ?_
        rintro e w5 ⟨rfl, hf⟩
        replace B3 := Lib.hid ((B3.out).fr0 hf)
        replace B6 := Lib.hid ((B6.out).fr0 hf)
        replace B8 := Lib.hid ((B8.out).fr0 hf)
        replace FW := Lib.hid (Fr0.trans FW.out hf)
        have z2 := hf.size
        try simp at z2
        clear hf
        refine hK.out _ _ (B3.out) ?_
        clear hK
        try simp only [Act.put, List.setIfInBounds_toArray, List.set_cons_zero, List.set_cons_succ]
        refine wpAnyH_ready (rs := [3]) (by kernel_rfl) (by simp) (consH rfl rfl (fun K hK => ?_) AllReadyH.nil)
        have _hI : True := trivial
        clear _hI
        refine wp_alloc_blk 121 rfl (wA 64 []) (fun _ => by kernel_rfl) ?_
        intro g7 W7 hB hf hl7
        try simp at hl7
        replace B3 := Lib.hid ((B3.out).fr0 hf)
        replace B6 := Lib.hid ((B6.out).fr0 hf)
        replace B8 := Lib.hid ((B8.out).fr0 hf)
        replace FW := Lib.hid (Fr0.trans FW.out hf)
        have z3 := hf.size
        try simp at z3
        clear hf
        have B7 := Lib.hid hB
        have lB7 := (B7.out).lt
        clear hB
        refine hK.out _ _ (B3.out) ?_
        clear hK
        try simp only [Act.put, List.setIfInBounds_toArray, List.set_cons_zero, List.set_cons_succ]
        refine wpAnyH_ready (rs := [5]) (by kernel_rfl) (by simp) (consH rfl rfl (fun K hK => ?_) AllReadyH.nil)
        have _hI : True := trivial
        clear _hI
        refine wp_store_blk ?qty9 ?qex9 ?qey9 ?qho9 ?qgg9 ?qcc9 ?qhx9 ?qhy9 ?qtt9 ?qold9 ?qhb9 ?qhi9 ?qhd9 ?qh19 ?qre9
        case qcc9 => exact (wA 64 (spW d 64))
        case qty9 => exact 121
        case qtt9 => exact 121
        case qgg9 => exact g7
        case qold9 => exact (wA 64 [])
        case qex9 => exact (.tmp 7)
        case qey9 => exact (.tmp 15)
        case qho9 => rfl
        case qhb9 => exact B7.out
        case qhi9 => exact hi64
        case qhd9 => exact ho64
        case qh19 => exact h1c
        case qhx9 => rfl
        case qhy9 => rfl
        intro V7 hB hf
        replace B3 := Lib.hid ((B3.out).fr1 hf (by omega))
        replace B6 := Lib.hid ((B6.out).fr1 hf (by omega))
        replace B8 := Lib.hid ((B8.out).fr1 hf (by omega))
        replace FW := Lib.hid (Fr0.new FW.out hf (by omega))
        have z4 := hf.size
        try simp at z4
        clear hf
        replace B7 := Lib.hid hB
        clear hB
        refine hK.out _ _ (B3.out) ?_
        clear hK
        try simp only [Act.put, List.setIfInBounds_toArray, List.set_cons_zero, List.set_cons_succ]
        refine wpAnyH_ready (rs := [6]) (by kernel_rfl) (by simp) (consH rfl rfl (fun K hK => ?_) AllReadyH.nil)
        have _hI : True := trivial
        clear _hI
        refine wp_store_blk ?qty10 ?qex10 ?qey10 ?qho10 ?qgg10 ?qcc10 ?qhx10 ?qhy10 ?qtt10 ?qold10 ?qhb10 ?qhi10 ?qhd10 ?qh110 ?qre10
        case qcc10 => exact (h8c x)
        case qty10 => exact 119
        case qtt10 => exact 119
        case qgg10 => exact g8
        case qold10 => exact (wA 8 [])
        case qex10 => exact (.tmp 8)
        case qey10 => exact (.tmp 16)
        case qho10 => rfl
        case qhb10 => exact B8.out
        case qhi10 => exact hi8
        case qhd10 => exact ho8
        case qh110 => exact h1x
        case qhx10 => rfl
        case qhy10 => rfl
        intro V8 hB hf
        replace B3 := Lib.hid ((B3.out).fr1 hf (by omega))
        replace B6 := Lib.hid ((B6.out).fr1 hf (by omega))
        replace B7 := Lib.hid ((B7.out).fr1 hf (by omega))
        replace FW := Lib.hid (Fr0.new FW.out hf (by omega))
        have z5 := hf.size
        try simp at z5
        clear hf
        replace B8 := Lib.hid hB
        clear hB
        refine hK.out _ _ (B3.out) ?_
        clear hK
        try simp only [Act.put, List.setIfInBounds_toArray, List.set_cons_zero, List.set_cons_succ]
        refine wpAnyH_done (by kernel_rfl) ?_ _
        go_wp2_with fail
        go_meet
        exact ⟨g7, g8, rfl, rfl, by omega, by omega, by omega, B3.out, B6.out, B7.out, B8.out, FW.out⟩
      ·
        have _hI : True := trivial
        clear _hI
        refine wp_alloc_blk 121 rfl (wA 64 []) (fun _ => by kernel_rfl) ?_
        intro g7 W7 hB hf hl7
        try simp at hl7
        replace B3 := Lib.hid ((B3.out).fr0 hf)
        replace B6 := Lib.hid ((B6.out).fr0 hf)
        replace B8 := Lib.hid ((B8.out).fr0 hf)
        replace FW := Lib.hid (Fr0.trans FW.out hf)
        have z2 := hf.size
        try simp at z2
        clear hf
        have B7 := Lib.hid hB
        have lB7 := (B7.out).lt
        clear hB
        refine hK.out _ _ (B3.out) ?_
        clear hK
        try simp only [Act.put, List.setIfInBounds_toArray, List.set_cons_zero, List.set_cons_succ]
        refine wpAnyH_ready (rs := [1]) (by kernel_rfl) (by simp) (consH rfl rfl (fun K hK => ?_) AllReadyH.nil)
        have _hI : True := trivial
        clear _hI
        go_simp
        refine (HS.out _ FW.out).mono ?_
        rintro e w5 ⟨rfl, hf⟩
        replace B3 := Lib.hid ((B3.out).fr0 hf)
        replace B6 := Lib.hid ((B6.out).fr0 hf)
        replace B7 := Lib.hid ((B7.out).fr0 hf)
        replace B8 := Lib.hid ((B8.out).fr0 hf)
        replace FW := Lib.hid (Fr0.trans FW.out hf)
        have z3 := hf.size
        try simp at z3
        clear hf
        refine hK.out _ _ (B3.out) ?_
        clear hK
        try simp only [Act.put, List.setIfInBounds_toArray, List.set_cons_zero, List.set_cons_succ]
        refine wpAnyH_ready (rs := [5]) (by kernel_rfl) (by simp) (consH rfl rfl (fun K hK => ?_) AllReadyH.nil)
        have _hI : True := trivial
        clear _hI
        refine wp_store_blk ?qty11 ?qex11 ?qey11 ?qho11 ?qgg11 ?qcc11 ?qhx11 ?qhy11 ?qtt11 ?qold11 ?qhb11 ?qhi11 ?qhd11 ?qh111 ?qre11
        case qcc11 => exact (wA 64 (spW d 64))
        case qty11 => exact 121
        case qtt11 => exact 121
        case qgg11 => exact g7
        case qold11 => exact (wA 64 [])
        case qex11 => exact (.tmp 7)
        case qey11 => exact (.tmp 15)
        case qho11 => rfl
        case qhb11 => exact B7.out
        case qhi11 => exact hi64
        case qhd11 => exact ho64
        case qh111 => exact h1c
        case qhx11 => rfl
        case qhy11 => rfl
        intro V7 hB hf
        replace B3 := Lib.hid ((B3.out).fr1 hf (by omega))
        replace B6 := Lib.hid ((B6.out).fr1 hf (by omega))
        replace B8 := Lib.hid ((B8.out).fr1 hf (by omega))
        replace FW := Lib.hid (Fr0.new FW.out hf (by omega))
        have z4 := hf.size
        try simp at z4
        clear hf
        replace B7 := Lib.hid hB
        clear hB
        refine hK.out _ _ (B3.out) ?_
        clear hK
        try simp only [Act.put, List.setIfInBounds_toArray, List.set_cons_zero, List.set_cons_succ]
        refine wpAnyH_ready (rs := [6]) (by kernel_rfl) (by simp) (consH rfl rfl (fun K hK => ?_) AllReadyH.nil)
        have _hI : True := trivial
        clear _hI
        refine wp_store_blk ?qty12 ?qex12 ?qey12 ?qho12 ?qgg12 ?qcc12 ?qhx12 ?qhy12 ?qtt12 ?qold12 ?qhb12 ?qhi12 ?qhd12 ?qh112 ?qre12
        case qcc12 => exact (h8c x)
        case qty12 => exact 119
        case qtt12 => exact 119
        case qgg12 => exact g8
        case qold12 => exact (wA 8 [])
        case qex12 => exact (.tmp 8)
        case qey12 => exact (.tmp 16)
        case qho12 => rfl
        case qhb12 => exact B8.out
        case qhi12 => exact hi8
        case qhd12 => exact ho8
        case qh112 => exact h1x
        case qhx12 => rfl
        case qhy12 => rfl
        intro V8 hB hf
        replace B3 := Lib.hid ((B3.out).fr1 hf (by omega))
        replace B6 := Lib.hid ((B6.out).fr1 hf (by omega))
        replace B7 := Lib.hid ((B7.out).fr1 hf (by omega))
        replace FW := Lib.hid (Fr0.new FW.out hf (by omega))
        have z5 := hf.size
        try simp at z5
        clear hf
        replace B8 := Lib.hid hB
        clear hB
        refine hK.out _ _ (B3.out) ?_
        clear hK
        try simp only [Act.put, List.setIfInBounds_toArray, List.set_cons_zero, List.set_cons_succ]
        refine wpAnyH_done (by kernel_rfl) ?_ _
        go_wp2_with fail
        go_meet
        exact ⟨g7, g8, rfl, rfl, by omega, by omega, by omega, B3.out, B6.out, B7.out, B8.out, FW.out⟩
  case rest =>
    obtain ⟨g7, g8, rfl, rfl, n78, l7, l8, b3, b6, b7, b8, hf⟩ := hcut
    clear HB3 HXS HS
    have HW := Lib.hid (spW_lt d 64)
    obtain ⟨ws, hws⟩ : ∃ ws, ws = spW d 64 := ⟨_, rfl⟩
    rw [← hws] at b7 HW
    have HWS := Lib.hid hws
    clear hws
    have HWL := Lib.hid (show ∀ i, ws.getD i 0 < 4294967296 from fun i => by
      rcases Nat.lt_or_ge i ws.length with h | h
      · rw [show ws.getD i 0 = ws[i] from by simp [List.getD, h]]; exact HW.out _ (List.getElem_mem h)
      · rw [show ws.getD i 0 = 0 from by simp [List.getD, List.getElem?_eq_none h]]; decide)
    go_wp2_with fail
    go_loopw [17] (fun v17 wr => ∃ k : Nat, k ≤ 64 ∧ v17 = .int .i64 k ∧ Fr0 w wr ∧ Blk wr w.heap.size (h8c (rnds x ks ws k)) 119 ∧ Blk wr (w.heap.size + 1) (wA 8 []) 119 ∧ Blk wr g7 (wA 64 ws) 121 ∧ Blk wr g8 (h8c x) 119) (fun v17 _ => 64 - (intOf v17).toNat)
    case atStart => exact ⟨0, Nat.zero_le _, rfl, hf, b3, b6, b7, b8⟩
    case round =>
      obtain ⟨k, hk, rfl, hf, b3, b6, b7, b8⟩ := hrel
      by_cases hlt : k < 64
      · have F2 := Lib.hid hf
        have B3 := Lib.hid b3
        have B6 := Lib.hid b6
        have B7 := Lib.hid b7
        have B8 := Lib.hid b8
        have YO := Lib.hid ((HX.out).rnds ks ws k)
        have HRS := Lib.hid (show rnds x ks ws (k + 1) = rnd (rnds x ks ws k) (ks.getD k 0) (ws.getD k 0) from rfl)
        obtain ⟨y, hy⟩ : ∃ y, y = rnds x ks ws k := ⟨_, rfl⟩
        rw [← hy] at b3 B3 YO HRS
        clear hy hf b6 b8
        obtain ⟨ya, yb, yc, yd, ye, yf, yg, yh⟩ := y
        obtain ⟨o1, o2, o3, o4, o5, o6, o7, o8⟩ := YO.out
        have i0 : (0 : Int) ≤ (k : Int) := by omega
        have i1 : (k : Int) < 64 := by omega
        have d0 := b3.cell 0 (v := .int .u32 (ya : Int)) rfl
        have d1 := b3.cell 1 (v := .int .u32 (yb : Int)) rfl
        have d2 := b3.cell 2 (v := .int .u32 (yc : Int)) rfl
        have d3 := b3.cell 3 (v := .int .u32 (yd : Int)) rfl
        have d4 := b3.cell 4 (v := .int .u32 (ye : Int)) rfl
        have d5 := b3.cell 5 (v := .int .u32 (yf : Int)) rfl
        have d6 := b3.cell 6 (v := .int .u32 (yg : Int)) rfl
        have d7 := b3.cell 7 (v := .int .u32 (yh : Int)) rfl
        have dk := (HK.out) _ F2.out k hlt
        have lk := (HKL.out) k
        have dw := b7.cell k (wA_at (l := ws) hlt)
        have lw := (HWL.out) k
        obtain ⟨kk, hkk⟩ : ∃ z, z = ks.getD k 0 := ⟨_, rfl⟩
        obtain ⟨wk, hwk⟩ : ∃ z, z = ws.getD k 0 := ⟨_, rfl⟩
        rw [← hkk] at dk lk HRS
        rw [← hwk] at dw lw HRS
        have HM1 := Lib.hid (fun (W : World) => show Calls Try.prog 70 #[.int .u32 (ye : Int), .int .i64 6, .int .i64 11, .int .i64 25] W (fun e w' => e = .returned (.int .u32 (mixT ye 6 11 25 : Nat)) ∧ W = w') from mixT_any ye 6 11 25 W o5 (by omega) (by omega) (by omega))
        have HM2 := Lib.hid (fun (W : World) => show Calls Try.prog 70 #[.int .u32 (ya : Int), .int .i64 2, .int .i64 13, .int .i64 22] W (fun e w' => e = .returned (.int .u32 (mixT ya 2 13 22 : Nat)) ∧ W = w') from mixT_any ya 2 13 22 W o1 (by omega) (by omega) (by omega))
        have m1l := mixT_lt (a := 6) (b := 11) (c := 25) o5
        have m2l := mixT_lt (a := 2) (b := 13) (c := 22) o1
        have HU := Lib.hid (show uN ⟨ya, yb, yc, yd, ye, yf, yg, yh⟩ kk wk = (yh + mixT ye 6 11 25 + ((ye &&& yf) ^^^ (inv32 ye &&& yg)) + kk + wk) % 4294967296 from rfl)
        have HV := Lib.hid (show vN ⟨ya, yb, yc, yd, ye, yf, yg, yh⟩ = (mixT ya 2 13 22 + ((ya &&& yb) ^^^ (ya &&& yc) ^^^ (yb &&& yc))) % 4294967296 from rfl)
        have HRD := Lib.hid (show rnd ⟨ya, yb, yc, yd, ye, yf, yg, yh⟩ kk wk = ⟨(uN ⟨ya, yb, yc, yd, ye, yf, yg, yh⟩ kk wk + vN ⟨ya, yb, yc, yd, ye, yf, yg, yh⟩) % 4294967296, ya, yb, yc, (yd + uN ⟨ya, yb, yc, yd, ye, yf, yg, yh⟩ kk wk) % 4294967296, ye, yf, yg⟩ from rfl)
        obtain ⟨m1, hm1⟩ : ∃ z, z = mixT ye 6 11 25 := ⟨_, rfl⟩
        obtain ⟨m2, hm2⟩ : ∃ z, z = mixT ya 2 13 22 := ⟨_, rfl⟩
        rw [← hm1] at HM1 m1l HU
        rw [← hm2] at HM2 m2l HV
        have q1 := u32_and_nat ye yf o5 o6
        have q2 := inv_eq ye o5
        have q2l : inv32 ye < 4294967296 := by unfold inv32; omega
        obtain ⟨iv, hiv⟩ : ∃ z, z = inv32 ye := ⟨_, rfl⟩
        rw [← hiv] at q2 q2l HU
        have q3 := u32_and_nat iv yg q2l o7
        have q1l := and_lt (b := yf) o5
        have q3l := and_lt (b := yg) q2l
        obtain ⟨p1, hp1⟩ : ∃ z, z = ye &&& yf := ⟨_, rfl⟩
        obtain ⟨p3, hp3⟩ : ∃ z, z = iv &&& yg := ⟨_, rfl⟩
        rw [← hp1] at q1 q1l HU
        rw [← hp3] at q3 q3l HU
        have q4 := u32_xor_nat p1 p3 q1l q3l
        obtain ⟨ch, hch⟩ : ∃ z, z = p1 ^^^ p3 := ⟨_, rfl⟩
        rw [← hch] at q4 HU
        have t1 := u32_and_nat ya yb o1 o2
        have t2 := u32_and_nat ya yc o1 o3
        have t3 := u32_and_nat yb yc o2 o3
        have t1l := and_lt (b := yb) o1
        have t2l := and_lt (b := yc) o1
        have t3l := and_lt (b := yc) o2
        obtain ⟨r1, hr1⟩ : ∃ z, z = ya &&& yb := ⟨_, rfl⟩
        obtain ⟨r2, hr2⟩ : ∃ z, z = ya &&& yc := ⟨_, rfl⟩
        obtain ⟨r3, hr3⟩ : ∃ z, z = yb &&& yc := ⟨_, rfl⟩
        rw [← hr1] at t1 t1l HV
        rw [← hr2] at t2 t2l HV
        rw [← hr3] at t3 t3l HV
        have t4 := u32_xor_nat r1 r2 t1l t2l
        have t4l := xor_lt t1l t2l
        obtain ⟨r4, hr4⟩ : ∃ z, z = r1 ^^^ r2 := ⟨_, rfl⟩
        rw [← hr4] at t4 t4l HV
        have t5 := u32_xor_nat r4 r3 t4l t3l
        obtain ⟨mj, hmj⟩ : ∃ z, z = r4 ^^^ r3 := ⟨_, rfl⟩
        rw [← hmj] at t5 HV
        obtain ⟨u, hu⟩ : ∃ z, z = uN ⟨ya, yb, yc, yd, ye, yf, yg, yh⟩ kk wk := ⟨_, rfl⟩
        obtain ⟨v, hv⟩ : ∃ z, z = vN ⟨ya, yb, yc, yd, ye, yf, yg, yh⟩ := ⟨_, rfl⟩
        rw [← hu] at HU HRD
        rw [← hv] at HV HRD
        have ul : u < 4294967296 := by rw [HU.out]; exact Nat.mod_lt _ (by decide)
        have vl : v < 4294967296 := by rw [HV.out]; exact Nat.mod_lt _ (by decide)
        have eu : ((yh : Int) + (m1 : Int) + (ch : Int) + (kk : Int) + (wk : Int)) % 4294967296 = (u : Int) := by rw [HU.out]; omega
        have ev : ((m2 : Int) + (mj : Int)) % 4294967296 = (v : Int) := by rw [HV.out]; omega
        obtain ⟨n0, hn0⟩ : ∃ z, z = (u + v) % 4294967296 := ⟨_, rfl⟩
        obtain ⟨n4, hn4⟩ : ∃ z, z = (yd + u) % 4294967296 := ⟨_, rfl⟩
        rw [← hn0, ← hn4] at HRD
        have e0 : ((u : Int) + (v : Int)) % 4294967296 = (n0 : Int) := by rw [hn0]; omega
        have e4 : ((yd : Int) + (u : Int)) % 4294967296 = (n4 : Int) := by rw [hn4]; omega
        have hiN : (Try.prog.info? 119).map (·.size) = some (h8c ⟨n0, ya, yb, yc, n4, ye, yf, yg⟩).size := by kernel_rfl
        have hoN : (h8c ⟨ya, yb, yc, yd, ye, yf, yg, yh⟩).size = (h8c ⟨n0, ya, yb, yc, n4, ye, yf, yg⟩).size := rfl
        have h1N := h8_one ⟨n0, ya, yb, yc, n4, ye, yf, yg⟩
        have HI := Lib.hid hiN
        have HO := Lib.hid hoN
        have HN := Lib.hid h1N
        clear b3 b7 hkk hwk hm1 hm2 hiv hp1 hp3 hch hr1 hr2 hr3 hr4 hmj hu hv hn0 hn4 HU HV hiN hoN h1N
        go_wp2_with fail
        go_quiet ((go_at_call 70; exact quiet_leftS (HM1.out _)))
        go_wp2_with fail
        change World.cell? (wr.drewN nq) _ = _ at d0 d1 d2 d3 d4 d5 d6 d7 dk dw
        replace F2 := Lib.hid (show Fr0 w (wr.drewN nq) from (F2.out).drewN nq)
        replace B3 := Lib.hid (show Blk (wr.drewN nq) _ _ _ from (B3.out).drewN nq)
        replace B6 := Lib.hid (show Blk (wr.drewN nq) _ _ _ from (B6.out).drewN nq)
        replace B7 := Lib.hid (show Blk (wr.drewN nq) _ _ _ from (B7.out).drewN nq)
        replace B8 := Lib.hid (show Blk (wr.drewN nq) _ _ _ from (B8.out).drewN nq)
        generalize wr.drewN nq = wd at *
        go_quiet ((go_at_call 70; exact quiet_leftS (HM2.out _)))
        go_wp2_with (refine list_store_blk rfl 119 _ _ rfl w.heap.size (h8c ⟨n0, ya, yb, yc, n4, ye, yf, yg⟩) rfl rfl 119 _ B3.out HI.out HO.out HN.out ?_; intro W1 hB hF; have BN := Lib.hid hB; have FN := Lib.hid (Fr1.und hF); clear hB hF)
        go_roundw
        case measure => simp [intOf]; omega
        case rel =>
          have hb := BN.out
          rw [← HRD.out, ← HRS.out] at hb
          exact ⟨k + 1, by omega, by go_num, Fr0.new F2.out FN.out (Nat.le_refl _), hb, (B6.out).fr1 FN.out (by omega), (B7.out).fr1 FN.out (by omega), (B8.out).fr1 FN.out (by omega)⟩
      · obtain rfl : k = 64 := by omega
        clear hlt hk b7
        have HT := Lib.hid (show takeN x d ks = add8 (rnds x ks ws 64) x by rw [HWS.out]; rfl)
        obtain ⟨y, hy⟩ : ∃ y, y = rnds x ks ws 64 := ⟨_, rfl⟩
        rw [← hy] at b3 HT
        have hyo := (HX.out).rnds ks ws 64
        rw [← hy] at hyo
        clear hy
        have hz : ∀ i, i < 8 → (add8 y x).list.getD i 0 = (y.list.getD i 0 + x.list.getD i 0) % 4294967296 := by
          intro i hi
          rcases (by omega : i = 0 ∨ i = 1 ∨ i = 2 ∨ i = 3 ∨ i = 4 ∨ i = 5 ∨ i = 6 ∨ i = 7) with rfl | rfl | rfl | rfl | rfl | rfl | rfl | rfl <;> rfl
        have HT2 := Lib.hid (show h8c (takeN x d ks) = wA 8 (add8 y x).list by rw [HT.out]; rfl)
        rw [show h8c y = wA 8 y.list from rfl] at b3
        rw [show h8c x = wA 8 x.list from rfl] at b8
        obtain ⟨zl, hzl⟩ : ∃ zl, zl = (add8 y x).list := ⟨_, rfl⟩
        obtain ⟨yl, hyl⟩ : ∃ yl, yl = y.list := ⟨_, rfl⟩
        obtain ⟨xl, hxl⟩ : ∃ xl, xl = x.list := ⟨_, rfl⟩
        have z8 := Lib.hid (show zl.length = 8 by rw [hzl]; rfl)
        have y8 := Lib.hid (show yl.length = 8 by rw [hyl]; rfl)
        have x8 := Lib.hid (show xl.length = 8 by rw [hxl]; rfl)
        rw [← hzl, ← hyl, ← hxl] at hz
        rw [← hzl] at HT2
        rw [← hyl] at b3
        rw [← hxl] at b8
        have HZ := Lib.hid hz
        clear hz hzl hyl hxl HT
        go_wp2_with fail
        go_loopw [93] (fun v93 w2 => ∃ i : Nat, i ≤ 8 ∧ v93 = .int .i64 i ∧ Fr0 w w2 ∧ Blk w2 w.heap.size (wA 8 (zl.take i ++ yl.drop i)) 119 ∧ Blk w2 (w.heap.size + 1) (wA 8 []) 119 ∧ Blk w2 g8 (wA 8 xl) 119) (fun v93 _ => 8 - (intOf v93).toNat)
        case atStart => exact ⟨0, Nat.zero_le _, rfl, hf, b3, b6, b8⟩
        case round =>
          obtain ⟨i, hi, rfl, hf, b3, b6, b8⟩ := hrel
          by_cases hlt : i < 8
          · have F2 := Lib.hid hf
            have B3 := Lib.hid b3
            have B6 := Lib.hid b6
            have B8 := Lib.hid b8
            have i0 : (0 : Int) ≤ (i : Int) := by omega
            have i1 : (i : Int) < 8 := by omega
            have d0 := b3.cell i (wA_at (l := zl.take i ++ yl.drop i) hlt)
            rw [half_at z8.out hlt] at d0
            have f0 := b3.free i
            have d1 := b8.cell i (wA_at (l := xl) hlt)
            obtain ⟨a, ha⟩ : ∃ a, a = yl.getD i 0 := ⟨_, rfl⟩
            obtain ⟨b, hb⟩ : ∃ b, b = xl.getD i 0 := ⟨_, rfl⟩
            rw [← ha] at d0
            rw [← hb] at d1
            have HS := Lib.hid (show zl.getD i 0 = (a + b) % 4294967296 by rw [ha, hb]; exact (HZ.out) i hlt)
            obtain ⟨s, hs⟩ : ∃ s, s = (a + b) % 4294967296 := ⟨_, rfl⟩
            rw [← hs] at HS
            have es : ((a : Int) + (b : Int)) % 4294967296 = (s : Int) := by rw [hs]; omega
            clear hf b3 b6 b8 ha hb hs
            go_wp2_with fail
            go_region
            all_goals
              go_wp2_with fail
              go_roundw
              case measure => simp [intOf]; omega
              case rel =>
                have hB := ((B3.out).set i (.int .u32 (s : Int)))
                rw [wA_set (by rw [half_len z8.out y8.out (by omega)]; exact hlt), ← HS.out, half_set z8.out y8.out hlt, HS.out] at hB
                exact ⟨i + 1, by omega, by go_num, Fr.setCell (p := ⟨w.heap.size, i, none⟩) (F2.out).drew (.inr (Nat.le_refl _)) _, hB.drew, ((B6.out).other (p := ⟨w.heap.size, i, none⟩) (by show w.heap.size + 1 ≠ w.heap.size; omega) _).drew, ((B8.out).other (p := ⟨w.heap.size, i, none⟩) (by show g8 ≠ w.heap.size; omega) _).drew⟩
          · obtain rfl : i = 8 := by omega
            have e : zl.take 8 ++ yl.drop 8 = zl := by rw [List.take_of_length_le (by rw [z8.out]; omega), List.drop_of_length_le (by rw [y8.out]; omega), List.append_nil]
            rw [e, ← HT2.out] at b3
            clear e hlt hi
            obtain ⟨Z, hZ⟩ : ∃ Z, Z = takeN x d ks := ⟨_, rfl⟩
            rw [← hZ] at b3
            have HZZ := Lib.hid hZ
            clear hZ
            have hi8 : (Try.prog.info? 119).map (·.size) = some (h8c Z).size := by kernel_rfl
            have ho8 : (wA 8 []).size = (h8c Z).size := rfl
            have h1 := h8_one Z
            obtain ⟨cs, hcs⟩ : ∃ cs, cs = h8c Z := ⟨_, rfl⟩
            rw [← hcs] at b3 hi8 ho8 h1
            have HF := Lib.hid hf
            have HCS := Lib.hid hcs
            clear hcs hf
            repeat (first
              | refine list_load_blk rfl 119 _ rfl w.heap.size rfl 119 _ b3 _ Try.underlying119 rfl hi8 ?_
              | (refine list_store_blk rfl 119 _ _ rfl (w.heap.size + 1) cs rfl rfl 119 _ b6 hi8 ho8 h1 ?_; intro W9 hB hF)
              | go_values | go_skip | go_step)
            refine bodyPost_ret (v := .agg cs) (results_cell_row rfl _ _ (w.heap.size + 1) 119 cs (0, 0) _ rfl hB Try.underlying119 rfl hi8) rfl ⟨by rw [HCS.out, HZZ.out], Fr0.new HF.out hF (by omega)⟩
end Go.Proofs.Ytgcjbbliaelkcaa
