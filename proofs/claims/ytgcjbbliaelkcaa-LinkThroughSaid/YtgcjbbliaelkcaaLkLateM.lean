/- LinkThrough: words for its walk: a link that is well, packets that are late. Conditions stand in the statements. -/
import Derived.Test.YtgcjbbliaelkcaaLkSameM
import Derived.Test.YtgcjbbliaelkcaaArgsWayM
import Derived.Test.YtgcjbbliaelkcaaAppFM
import Derived.Test.YtgcjbbliaelkcaaQuiet
set_option linter.unusedSimpArgs false
set_option linter.unusedVariables false
namespace Go.Proofs.Ytgcjbbliaelkcaa
open Go.RowKit

/-- A link that is well. -/
structure LkI (key : List UInt8) (dn : Bool) (b : Nat) (s : Lk) : Prop where
  made : s.made = true
  key : s.key = key
  down : s.down = dn
  next : s.next ≤ b
  stamp : 0 ≤ s.stamp ∧ s.stamp ≤ 65535
  eat : 0 ≤ s.eat ∧ s.eat ≤ 1099511627776
  may : mayM s.many s.mid s.off
theorem LkI.sent {key : List UInt8} {dn : Bool} {b : Nat} {s : Lk} (h : LkI key dn b s) : LkI key dn (b + 1) (sentLk s) :=
  ⟨h.made, h.key, h.down, Nat.succ_le_succ h.next, (show (0 : Int) ≤ 0 ∧ (0 : Int) ≤ 65535 by decide), (show (0 : Int) ≤ 0 ∧ (0 : Int) ≤ 1099511627776 by decide), h.may⟩
theorem LkI.more {key : List UInt8} {dn : Bool} {b : Nat} {s : Lk} (h : LkI key dn b s) : LkI key dn (b + 1) s := ⟨h.made, h.key, h.down, Nat.le_succ_of_le h.next, h.stamp, h.eat, h.may⟩
theorem LkI.hear {key : List UInt8} {dn : Bool} {b : Nat} {s : Lk} (h : LkI key dn b s) {now frm : Int} {n x y : Nat} (hn : 0 ≤ now ∧ now ≤ 1099511627776) (hx : x < 65535) : LkI key dn b (hearLk s now frm n x y) := by
  obtain ⟨h1, h2, h3, h4, h5, h6, h7⟩ := h
  unfold hearLk
  split
  · rename_i hk
    exact ⟨h1, h2, h3, h4, (show (0 : Int) ≤ (x : Int) ∧ (x : Int) ≤ 65535 by omega), hn, metOne_may h7 ⟨by omega, by have := hk.2; omega⟩⟩
  · exact ⟨h1, h2, h3, h4, (show (0 : Int) ≤ (x : Int) ∧ (x : Int) ≤ 65535 by omega), hn, h7⟩
theorem hearLk_heard (s : Lk) (now frm : Int) (n x y : Nat) : (hearLk s now frm n x y).heard = true := by unfold hearLk; split <;> rfl
theorem hearLk_newest (s : Lk) (now frm : Int) (n x y : Nat) : (hearLk s now frm n x y).newest = n := by unfold hearLk; split <;> rfl
theorem hearLk_addr (s : Lk) (now frm : Int) (n x y : Nat) : (hearLk s now frm n x y).addr = if s.down then frm else s.addr := by unfold hearLk; split <;> rfl
theorem hearLk_nextT (s : Lk) (now frm : Int) (n x y : Nat) : (hearLk s now frm n x y).next = s.next := by unfold hearLk; split <;> rfl
def newsOk (s : Lk) (b : Nat) : Prop := s.heard = true → s.newest < b
/-- A packet that is late: its slice, who sent it, number, stamp, echo, text. -/
structure LateD where
  v : Value
  up : Bool
  n : Nat
  x : Nat
  y : Nat
  t : List UInt8
def LateOk (code mark : List UInt8) (W : World) (z : LateD) : Prop := RdB W z.v (pkL code mark (!z.up) z.n z.x z.y z.t) ∧ TyB W z.v 5 ∧ z.n < 9223372036854775808 ∧ z.x < 65535 ∧ z.y < 65536 ∧ z.t.length ≤ 1196
structure LateV (code mark : List UInt8) (base : Nat) (W : World) (v9 v10 : Value) (m : Nat) (L : List LateD) : Prop where
  len : L.length = m
  r9 : W.ownsRow base 32 1 v9 m (L.map (·.v))
  r10 : W.ownsRow base 4 1 v10 m (L.map (fun z => .bool z.up))
  ok : ∀ z ∈ L, LateOk code mark W z
section
variable {code mark : List UInt8} {base m : Nat} {W W' : World} {v9 v10 : Value} {L : List LateD}
theorem LateOk.fr0 {z : LateD} (h : LateOk code mark W z) (hf : Fr0 W W') : LateOk code mark W' z := ⟨h.1.fr0 hf, h.2.1.fr0 hf, h.2.2⟩
theorem LateOk.frT {z : LateD} {S : Nat → Prop} (h : LateOk code mark W z) (hf : Fr S W W') (hs : ∀ k, S k → ∀ cur t fz, W.heap[k]? = some (.cells cur t fz) → t ≠ 5) : LateOk code mark W' z := by
  have hn : ∀ g, Value.blk z.v = some g → ¬ S g := fun g hg hS => by
    obtain ⟨cur, fz, hc⟩ := h.2.1 g hg
    exact hs g hS _ _ _ hc rfl
  exact ⟨Rd.fr h.1 hf (fun _ g hg => hn g hg), h.2.1.fr hf hn, h.2.2⟩
theorem LateV.fr0 (h : LateV code mark base W v9 v10 m L) (hf : Fr0 W W') : LateV code mark base W' v9 v10 m L :=
  ⟨h.len, own_fr h.r9 hf (fun _ _ h => h), own_fr h.r10 hf (fun _ _ h => h), fun z hz => (h.ok z hz).fr0 hf⟩
theorem LateV.link (h : LateV code mark base W v9 v10 m L) {p : Nat} {s : Lk} (hl : LkV W p s) (hf : Fr1 p W W') : LateV code mark base W' v9 v10 m L :=
  ⟨h.len, own_fr h.r9 hf (fun g hg e => own_ne h.r9 hl.blk (by decide) g hg e), own_fr h.r10 hf (fun g hg e => own_ne h.r10 hl.blk (by decide) g hg e), fun z hz => (h.ok z hz).frT hf (fun k hk cur t fz hc => by
    subst hk
    have hb := hl.blk
    unfold Blk at hb
    rw [hb] at hc
    injection hc with hc
    injection hc with _ e
    rw [← e]; decide)⟩
end
theorem rd_one1 {W : World} {g : Nat} {v : Value} {t : TypeId} (h : Blk W g #[v] t) : Rd W 1 (.slice (some ⟨g, 0, none⟩) 1 1) 1 [v] :=
  ⟨rfl, ⟨_, _, rfl, Nat.le_refl _, by unfold maxLen; omega, fun h => by cases h⟩, fun _ => ⟨g, 0, 1, _, _, _, rfl, h, fun j u hu => by simpa using hu⟩⟩
theorem infoBs : (Try.prog.info? 32).map (fun i => (i.zero, i.size, i.bytes)) = some (some (.slice none 0 0), 1, 24) := by kernel_rfl
theorem infoBl : (Try.prog.info? 4).map (fun i => (i.zero, i.size, i.bytes)) = some (some (.bool false), 1, 1) := by kernel_rfl
theorem ownB_ty {W : World} {base n k : Nat} {t : TypeId} {v : Value} {xs : List Value} (h : W.ownsRow base t 1 v n xs) (hk : ownB v k) : ∃ cur, W.heap[k]? = some (.cells cur t (0, 0)) := by
  rcases h.2 with ⟨rfl, _⟩ | ⟨g, cap, cur, rfl, _, hgg, _⟩
  · cases hk
  · cases hk; exact ⟨cur, hgg⟩
theorem ownB_link {W : World} {base n p : Nat} {t : TypeId} {v : Value} {xs : List Value} {s : Lk} (h : W.ownsRow base t 1 v n xs) (hl : LkV W p s) (ht : t ≠ 64) : ¬ ownB v p := fun hk => by
  obtain ⟨cur, hc⟩ := ownB_ty h hk
  have hb := hl.blk
  unfold Blk at hb
  rw [hb] at hc
  injection hc with hc
  injection hc with _ e
  exact ht e.symm
theorem ownB_blk {W : World} {base n p : Nat} {t t' : TypeId} {v : Value} {xs : List Value} {cs : Array Value} (h : W.ownsRow base t 1 v n xs) (hb : Blk W p cs t') (ht : t ≠ t') : ¬ ownB v p := fun hk => by
  obtain ⟨cur, hc⟩ := ownB_ty h hk
  unfold Blk at hb
  rw [hb] at hc
  injection hc with hc
  injection hc with _ e
  exact ht e.symm
theorem own_apart2 {W W' : World} {b b' n n' : Nat} {t t' : TypeId} {v v' : Value} {xs xs' : List Value} (h : W.ownsRow b t 1 v n xs) (h' : W.ownsRow b' t' 1 v' n' xs') (hf : Fr (ownB v) W W') (ht : t ≠ t') : W'.ownsRow b' t' 1 v' n' xs' :=
  own_fr h' hf (fun g hg hk => by
    obtain ⟨cur, hc⟩ := ownB_ty h hk
    obtain ⟨cur2, hc2⟩ := ownB_ty h' (show ownB v' g from hg)
    rw [hc] at hc2
    injection hc2 with hc2
    injection hc2 with _ e
    exact ht e)
/-- A late packet more. -/
theorem LateV.push {code mark : List UInt8} {base m : Nat} {W W1 W2 : World} {v9 v10 v9' v10' : Value} {L : List LateD} {z : LateD} (h : LateV code mark base W v9 v10 m L) (hz : LateOk code mark W z)
    (h9 : W1.ownsRow base 32 1 v9' (m + 1) (L.map (·.v) ++ [z.v])) (f9 : Fr (ownB v9) W W1) (h10 : W2.ownsRow base 4 1 v10' (m + 1) (L.map (fun z => .bool z.up) ++ [.bool z.up])) (f10 : Fr (ownB v10) W1 W2) : LateV code mark base W2 v9' v10' (m + 1) (L ++ [z]) := by
  have r10 : W1.ownsRow base 4 1 v10 m (L.map (fun z => .bool z.up)) := own_fr h.r10 f9 (fun g hg hk => by
    obtain ⟨cur, hc⟩ := ownB_ty h.r9 hk
    obtain ⟨cur2, hc2⟩ := ownB_ty h.r10 (show ownB v10 g from hg)
    rw [hc] at hc2
    injection hc2 with hc2
    injection hc2 with _ e
    exact absurd e (by decide))
  have ok1 : ∀ y, LateOk code mark W y → LateOk code mark W2 y := fun y hy => (hy.frT f9 (fun k hk cur t fz hc => by
    obtain ⟨cur2, hc2⟩ := ownB_ty h.r9 hk
    rw [hc2] at hc
    injection hc with hc
    injection hc with _ e
    rw [← e]; decide)).frT f10 (fun k hk cur t fz hc => by
    obtain ⟨cur2, hc2⟩ := ownB_ty r10 hk
    rw [hc2] at hc
    injection hc with hc
    injection hc with _ e
    rw [← e]; decide)
  refine ⟨by simp [h.len], ?_, by simpa using h10, fun y hy => ?_⟩
  · have : W2.ownsRow base 32 1 v9' (m + 1) (L.map (·.v) ++ [z.v]) := own_fr h9 f10 (fun g hg hk => by
      obtain ⟨cur, hc⟩ := ownB_ty r10 hk
      obtain ⟨cur2, hc2⟩ := ownB_ty h9 (show ownB v9' g from hg)
      rw [hc] at hc2
      injection hc2 with hc2
      injection hc2 with _ e
      exact absurd e (by decide))
    simpa using this
  · rcases List.mem_append.1 hy with hy | hy
    · exact ok1 y (h.ok y hy)
    · rw [List.mem_singleton.1 hy]; exact ok1 z hz
end Go.Proofs.Ytgcjbbliaelkcaa
