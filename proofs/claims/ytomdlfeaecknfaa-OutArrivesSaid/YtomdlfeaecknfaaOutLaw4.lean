/- Things done with a sender at early times: what stays, and that the base then arrives: plain functions of lists; no program in sight. No condition. -/
import Derived.Test.YtomdlfeaecknfaaOutLaw3
namespace Go.Proofs.Ytomdlfeaecknfaa

/-- Behind at most k things, at times up to 2 to the power 30. -/
structure Early (k : Nat) (o : OutD) : Prop where
  ok : OutOk o
  at_ : ∀ x ∈ o.all, x.at_ ≤ 1073741824
  oat : o.at_ ≤ 1073741824
  fineA : ∀ x ∈ o.all, fine x.s
  fineN : fine o.now
  num : (lastS o.all).n ≤ k
theorem early_new : Early 0 (outNew ⟨#[]⟩) :=
  ⟨new_ok _, fun x hx => by simp [outNew] at hx; subst hx; simp, by simp [outNew], fun x hx => by simp [outNew] at hx; subst hx; exact ⟨rfl, by simp [ByteArray.size]⟩, ⟨rfl, by simp [outNew, ByteArray.size]⟩, by simp [outNew, lastS]⟩
theorem early_set {k : Nat} {o : OutD} (h : Early k o) {s : ByteArray} (hs : fine s) : Early k (withNow o s) := ⟨set_ok h.ok s, h.at_, h.oat, h.fineA, hs, h.num⟩
theorem early_up {k : Nat} {o : OutD} (h : Early k o) : Early (k + 1) o := ⟨h.ok, h.at_, h.oat, h.fineA, h.fineN, by have := h.num; omega⟩
theorem early_heard {k : Nat} {o : OutD} (h : Early k o) (ack : Int) : Early k (heardP o ack) := by
  have hok := heard_ok h.ok ack
  unfold heardP at hok ⊢
  cases e : findN o.all ack with
  | none => exact h
  | some i =>
    rw [e] at hok
    obtain ⟨hi, _⟩ := List.findIdx?_eq_some_iff_getElem.1 e
    exact ⟨hok, fun x hx => h.at_ x (List.mem_of_mem_drop hx), h.oat, fun x hx => h.fineA x (List.mem_of_mem_drop hx), h.fineN, by simp only; rw [last_drop hi]; exact h.num⟩
theorem early_told {k : Nat} {o : OutD} (h : Early k o) {now wait ack : Int} (hn : now ≤ 1073741824) : Early (k + 1) (toldP o now wait ack) := by
  have hok := told_ok h.ok now wait ack
  unfold toldP at hok ⊢
  cases e : tellP o now wait ack with
  | none => exact early_up h
  | some t =>
    rw [e] at hok
    obtain ⟨-, hp⟩ := tellP_asked e
    have hnum := h.num
    rcases pickP_some hp with h1 | ⟨-, h1⟩ | ⟨-, -, h1⟩
    · obtain ⟨-, e1, -⟩ := stateP_some h1
      have hl : lastS t.all = ⟨(lastS o.all).n + 1, o.now, true, now⟩ := by rw [e1]; exact lastS_app _ _
      refine ⟨hok, ?_, hn, ?_, h.fineN, by simp only [afterP]; rw [hl]; simp only; omega⟩
      · intro x hx
        simp only [afterP, e1, sentMore, List.mem_append, List.mem_singleton] at hx
        rcases hx with hx | rfl
        · exact h.at_ x hx
        · exact hn
      · intro x hx
        simp only [afterP, e1, sentMore, List.mem_append, List.mem_singleton] at hx
        rcases hx with hx | rfl
        · exact h.fineA x hx
        · exact h.fineN
    · obtain ⟨-, -, e1⟩ := againP_some h1
      have ea : t.all = setLast o.all now := by rw [e1]
      refine ⟨hok, ?_, hn, ?_, h.fineN, by simp only [afterP]; rw [ea, setLast_last h.ok.pos]; simp only; omega⟩
      · intro x hx
        simp only [afterP, ea, setLast, List.mem_append, List.mem_singleton] at hx
        rcases hx with hx | rfl
        · exact h.at_ x (List.mem_of_mem_take hx)
        · exact hn
      · intro x hx
        simp only [afterP, ea, setLast, List.mem_append, List.mem_singleton] at hx
        rcases hx with hx | rfl
        · exact h.fineA x (List.mem_of_mem_take hx)
        · exact h.fineA (lastS o.all) (lastS_mem h.ok.pos)
    · obtain ⟨-, e1⟩ := wordP_some h1
      have ea : t.all = o.all := by rw [e1]
      exact ⟨hok, fun x hx => h.at_ x (by simpa [afterP, ea] using hx), hn, fun x hx => h.fineA x (by simpa [afterP, ea] using hx), h.fineN, by simp only [afterP]; rw [ea]; omega⟩
theorem early_old {k : Nat} {o : OutD} (h : Early k o) (hk : k ≤ 1000) {wait : Int} (hw : 50 ≤ wait ∧ wait ≤ 1000) : Old o 1073743824 wait :=
  ⟨fun _ => by have := h.oat; omega, fun x hx => by have := h.at_ x hx; omega, h.fineA, h.fineN, by have := h.num; omega⟩
theorem round_now (o : OutD) (now wait : Int) : (roundP o now wait).now = o.now := by
  unfold roundP
  cases tellP o now wait 0 with
  | none => rfl
  | some t =>
    simp only
    split
    · rfl
    · unfold heardP; split <;> rfl
theorem rounds_now (o : OutD) (now wait : Int) (j : Nat) : (roundsP wait j o now).now = o.now := by
  induction j with
  | zero => rfl
  | succ j ih => exact (round_now _ _ _).trans ih
theorem rounds_ok {o : OutD} (h : OutOk o) (now wait : Int) (j : Nat) : OutOk (roundsP wait j o now) := by
  induction j with
  | zero => exact h
  | succ j ih => exact round_ok ih _ _
theorem arrives12 {k : Nat} {o : OutD} (h : Early k o) (hk : k ≤ 1000) {wait : Int} (hw : 50 ≤ wait ∧ wait ≤ 1000) : (roundsP wait 12 o 1073743824).all.length = 1 ∧ (baseS (roundsP wait 12 o 1073743824).all).s = o.now := by
  have := arrives h.ok hw (by omega) (early_old h hk hw) 10
  exact ⟨this.1, this.2.trans (rounds_now _ _ _ _)⟩
end Go.Proofs.Ytomdlfeaecknfaa
