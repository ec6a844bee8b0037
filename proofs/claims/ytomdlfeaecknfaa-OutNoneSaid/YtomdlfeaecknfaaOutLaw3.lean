/- The bounds of a sender of texts, with what was said under each number: plain functions of lists; no program in sight. No condition. -/
import Derived.Test.YtomdlfeaecknfaaOutLaw2
namespace Go.Proofs.Ytomdlfeaecknfaa

structure Bnd (o : OutD) (said : List ByteArray) : Prop where
  ok : OutOk o
  len : (said.length : Int) = (lastS o.all).n + 1
  at_ : ∀ x ∈ o.all, said[x.n.toNat]? = some x.s
  fineA : ∀ s ∈ said, fine s
  now : fine o.now
theorem bnd_new : Bnd (outNew ⟨#[]⟩) [⟨#[]⟩] := by
  refine ⟨new_ok _, by simp [outNew, lastS], ?_, ?_, ?_⟩
  · intro x hx; simp [outNew] at hx; subst hx; simp
  · intro s hs; simp at hs; subst hs; exact ⟨rfl, by simp [ByteArray.size]⟩
  · exact ⟨rfl, by simp [outNew, ByteArray.size]⟩
theorem bnd_set {o : OutD} {said : List ByteArray} (h : Bnd o said) {s : ByteArray} (hs : fine s) : Bnd (withNow o s) said := ⟨set_ok h.ok s, h.len, h.at_, h.fineA, hs⟩
theorem bnd_fine {o : OutD} {said : List ByteArray} (h : Bnd o said) : ∀ x ∈ o.all, fine x.s := fun x hx => h.fineA _ (List.mem_of_getElem? (h.at_ x hx))
theorem last_drop {l : List Snt} {k : Nat} (hk : k < l.length) : lastS (l.drop k) = lastS l := by unfold lastS; rw [drop_getD, List.length_drop]; congr 1; omega
theorem bnd_heard {o : OutD} {said : List ByteArray} (h : Bnd o said) (ack : Int) : Bnd (heardP o ack) said ∧ (baseS o.all).n ≤ (baseS (heardP o ack).all).n ∧ lastS (heardP o ack).all = lastS o.all := by
  have hok := heard_ok h.ok ack
  unfold heardP at hok ⊢
  cases e : findN o.all ack with
  | none => exact ⟨h, Int.le_refl _, rfl⟩
  | some i =>
    rw [e] at hok
    obtain ⟨hi, _⟩ := List.findIdx?_eq_some_iff_getElem.1 e
    have hl : lastS (withAll o (o.all.drop i)).all = lastS o.all := last_drop hi
    refine ⟨⟨hok, by rw [hl]; exact h.len, fun x hx => h.at_ x (List.mem_of_mem_drop hx), h.fineA, h.now⟩, ?_, hl⟩
    have hb : baseS (withAll o (o.all.drop i)).all = o.all.getD i snt0 := by unfold baseS; rw [drop_getD]; rfl
    rw [hb, h.ok.rise i hi]; omega
/-- What holds of what is told. -/
structure TellBnd (o : OutD) (said said' : List ByteArray) (t : Told) : Prop where
  base : (baseS t.all).n = (baseS o.all).n
  lo : (baseS o.all).n ≤ t.old
  le : t.old ≤ t.new
  newIs : t.new = (lastS t.all).n ∨ t.new = t.old
  more : (lastS t.all).n ≠ (lastS o.all).n → (lastS t.all).n = (lastS o.all).n + 1 ∧ t.new = (lastS t.all).n
  lt : t.new < said'.length
  diff : t.new ≠ t.old → ∃ a b, said'[t.old.toNat]? = some a ∧ said'[t.new.toNat]? = some b ∧ t.d = diffT a b ∧ fine a ∧ fine b
  none : t.new = t.old → t.d = []
  grow : said'.length ≤ said.length + 1
def saidP (o : OutD) (said : List ByteArray) (t : Told) : List ByteArray := if (lastS t.all).n = (lastS o.all).n then said else said ++ [(lastS t.all).s]
theorem bnd_tell {o : OutD} {said : List ByteArray} (h : Bnd o said) {now wait ack : Int} {t : Told} (ht : tellP o now wait ack = some t) : Bnd (afterP o now ack t) (saidP o said t) ∧ TellBnd o said (saidP o said t) t := by
  have hok := told_ok h.ok now wait ack
  unfold toldP at hok
  rw [ht] at hok
  simp only at hok
  obtain ⟨ha, hp⟩ := tellP_asked ht
  have hpos := h.ok.pos
  have hlast := h.ok.lastN
  have hn0 := h.ok.n0
  have hlen := h.len
  have bm := h.at_ _ (baseS_mem hpos)
  have lm := h.at_ _ (lastS_mem hpos)
  have bf := bnd_fine h _ (baseS_mem hpos)
  have lf := bnd_fine h _ (lastS_mem hpos)
  rcases pickP_some hp with h1 | ⟨-, h1⟩ | ⟨-, -, h1⟩
  · obtain ⟨hd, e1, e2, e3⟩ := stateP_some h1
    have hm := assumed_mem hpos now (clampW wait)
    have hmb := h.ok.memN hm
    have am := h.at_ _ hm
    have af := bnd_fine h _ hm
    have hl : lastS t.all = ⟨(lastS o.all).n + 1, o.now, true, now⟩ := by rw [e1]; exact lastS_app _ _
    have hb : baseS t.all = baseS o.all := by rw [e1]; exact baseS_app hpos _
    have hs : saidP o said t = said ++ [o.now] := by unfold saidP; rw [hl, if_neg (by simp only; omega)]
    have hold : (baseS o.all).n ≤ t.old ∧ t.old ≤ (lastS o.all).n ∧ ∃ a, said[t.old.toNat]? = some a ∧ t.d = diffT a o.now ∧ fine a := by
      rcases e3 with ⟨_, e4, e5⟩ | ⟨_, e4, e5⟩
      · rw [e4]; exact ⟨hmb.1, hmb.2, _, am, e5, af⟩
      · rw [e4]; exact ⟨Int.le_refl _, by omega, _, bm, e5, bf⟩
    obtain ⟨o1, o2, a, o3, o4, o5⟩ := hold
    rw [hs]
    refine ⟨⟨hok, ?_, ?_, ?_, h.now⟩, ⟨by rw [hb], o1, by omega, .inl (by rw [hl, e2]), fun _ => by rw [hl, e2]; exact ⟨rfl, rfl⟩, by rw [e2]; simp; omega, fun _ => ⟨a, o.now, ?_, ?_, o4, o5, h.now⟩, fun e => by omega, by simp⟩⟩
    · simp only [afterP]; rw [hl]; simp; omega
    · intro x hx
      simp only [afterP, e1, sentMore, List.mem_append, List.mem_singleton] at hx
      rcases hx with hx | rfl
      · have hx1 := h.ok.memN hx
        rw [List.getElem?_append_left (by omega)]
        exact h.at_ x hx
      · rw [List.getElem?_append_right (by simp only; omega)]
        simp only
        rw [show ((lastS o.all).n + 1).toNat - said.length = 0 from by omega]
        rfl
    · intro s hs
      rcases List.mem_append.1 hs with hs | hs
      · exact h.fineA s hs
      · simp at hs; subst hs; exact h.now
    · rw [List.getElem?_append_left (by omega)]; exact o3
    · rw [List.getElem?_append_right (by omega), show t.new.toNat - said.length = 0 from by omega]; rfl
  · obtain ⟨hd, _, e⟩ := againP_some h1
    have hlen1 := againDue_len hpos hd
    have hl : lastS t.all = { lastS o.all with at_ := now } := by rw [e]; exact setLast_last hpos now
    have hb : baseS t.all = baseS o.all := by rw [e]; exact setLast_base hlen1 now
    have hs : saidP o said t = said := by unfold saidP; rw [hl, if_pos rfl]
    have eo : t.old = (baseS o.all).n := by rw [e]
    have en : t.new = (lastS o.all).n := by rw [e]
    have ed : t.d = diffT (baseS o.all).s (lastS o.all).s := by rw [e]
    have ea : t.all = setLast o.all now := by rw [e]
    rw [hs]
    refine ⟨⟨hok, ?_, ?_, h.fineA, h.now⟩, ⟨by rw [hb], by omega, by omega, .inl (by rw [hl, en]), fun hh => absurd (by rw [hl]) hh, by omega, fun _ => ⟨_, _, by rw [eo]; exact bm, by rw [en]; exact lm, ed, bf, lf⟩, fun _ => by omega, by omega⟩⟩
    · simp only [afterP]; rw [hl]; exact h.len
    · intro x hx
      simp only [afterP, ea, setLast, List.mem_append, List.mem_singleton] at hx
      rcases hx with hx | rfl
      · exact h.at_ x (List.mem_of_mem_take hx)
      · exact lm
  · obtain ⟨_, e⟩ := wordP_some h1
    have ea : t.all = o.all := by rw [e]
    have eo : t.old = (baseS o.all).n := by rw [e]
    have en : t.new = (baseS o.all).n := by rw [e]
    have hs : saidP o said t = said := by unfold saidP; rw [ea, if_pos rfl]
    rw [hs]
    refine ⟨⟨hok, by simp only [afterP]; rw [ea]; exact h.len, fun x hx => h.at_ x (by simpa [afterP, ea] using hx), h.fineA, h.now⟩, ⟨by rw [ea], by omega, by omega, .inr (by rw [eo, en]), fun hh => absurd (by rw [ea]) hh, by omega, fun hh => absurd (by rw [eo, en]) hh, fun _ => by rw [e], by omega⟩⟩
/-- Behind whatever was told or not. -/
theorem bnd_told {o : OutD} {said : List ByteArray} (h : Bnd o said) (now wait ack : Int) : ∃ said', Bnd (toldP o now wait ack) said' ∧ said'.length ≤ said.length + 1 := by
  unfold toldP
  cases e : tellP o now wait ack with
  | none => exact ⟨said, h, by omega⟩
  | some t => obtain ⟨h1, h2⟩ := bnd_tell h e; exact ⟨_, h1, h2.grow⟩
end Go.Proofs.Ytomdlfeaecknfaa
