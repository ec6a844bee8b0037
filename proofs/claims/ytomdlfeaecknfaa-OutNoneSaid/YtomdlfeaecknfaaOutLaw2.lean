/- What follows for a sender of texts: it tells once, its numbers stay in bounds, its base arrives: plain functions of lists; no program in sight. No condition. -/
import Derived.Test.YtomdlfeaecknfaaOutLaw
namespace Go.Proofs.Ytomdlfeaecknfaa

/-! ### Told once -/
theorem tellP_asked {o : OutD} {now wait ack : Int} {t : Told} (h : tellP o now wait ack = some t) : asked now ack ∧ pickP o now (clampW wait) ack = some t := by
  unfold tellP at h
  split at h
  · rename_i ha; exact ⟨ha, h⟩
  · cases h
theorem clampW_ge (wait : Int) : 50 ≤ clampW wait ∧ clampW wait ≤ 1000 := by unfold clampW; omega
theorem since_near {a n less : Int} (h : n - a < less) : since true a n less = true := by simp [since, h]
theorem tell_once {o : OutD} (h : OutOk o) {now wait ack later : Int} {s : ByteArray} (hl : 0 ≤ later ∧ later ≤ 19) {t : Told} (ht : tellP o now wait ack = some t) :
    tellP (withNow (afterP o now ack t) s) (now + if t.new = t.old then 0 else later) wait ack = none := by
  obtain ⟨⟨a1, a2, a3, a4⟩, hp⟩ := tellP_asked ht
  obtain ⟨c1, c2⟩ := clampW_ge wait
  obtain ⟨L, hL⟩ : ∃ L, L = if t.new = t.old then 0 else later := ⟨_, rfl⟩
  have hL0 : 0 ≤ L ∧ L ≤ 19 := by rw [hL]; split <;> omega
  rw [← hL]
  unfold tellP
  split
  · have hs : stateP (withNow (afterP o now ack t) s) (now + L) (clampW wait) = none := by
      unfold stateP
      rw [if_neg]
      have : since true now (now + L) 20 = true := since_near (by omega)
      simp [stateDue, afterP, this]
    have hw : wordP (withNow (afterP o now ack t) s) (now + L) ack = none := by
      unfold wordP
      rw [if_neg]
      have h1 : since true now (now + L) 300 = true := since_near (by omega)
      have h2 : ack ≤ max o.ack ack := by omega
      show ¬ (!(decide (ack ≤ max o.ack ack) && since true now (now + L) 300)) = true
      rw [h1, decide_eq_true h2]
      simp
    have ha : againP (withNow (afterP o now ack t) s) (now + L) (clampW wait) = none := by
      rcases pickP_some hp with h1 | ⟨-, h1⟩ | ⟨-, h1, h2⟩
      · obtain ⟨hd, ha, -⟩ := stateP_some h1
        unfold againP
        rw [if_neg]
        simp only [againDue, afterP, ha, sentMore, lastS_app, since, Bool.and_eq_true, decide_eq_true_eq, Bool.not_eq_true', Bool.true_and, decide_eq_false_iff_not]
        omega
      · obtain ⟨hd, -, ha⟩ := againP_some h1
        have hlen := againDue_len h.pos hd
        have htold := h.told (o.all.length - 1) (by omega) (by omega)
        unfold againP
        rw [if_neg]
        simp only [againDue, afterP, ha, setLast_last h.pos, since, show (lastS o.all).told = true from htold, Bool.and_eq_true, decide_eq_true_eq, Bool.not_eq_true', Bool.true_and, decide_eq_false_iff_not]
        omega
      · obtain ⟨-, hwt⟩ := wordP_some h2
        have : L = 0 := by rw [hL, hwt]; simp
        subst this
        rw [Int.add_zero]
        unfold againP at h1 ⊢
        rw [show (withNow (afterP o now ack t) s).all = o.all from by rw [hwt]; rfl]
        exact h1
    unfold pickP
    rw [hs, ha, hw]
  · rfl

/-! ### The base arrives -/
def fine (s : ByteArray) : Prop := bang s = false ∧ s.size ≤ 60
theorem fine_step {a b : ByteArray} (ha : fine a) (hb : fine b) : okStep a b = true := by
  unfold okStep
  rw [ha.1, hb.1]
  simp
  have := ha.2; have := hb.2; omega
/-- One round: told, and heard, if it is a state. -/
def roundP (o : OutD) (now wait : Int) : OutD := match tellP o now wait 0 with
  | some t => if t.new = t.old then afterP o now 0 t else heardP (afterP o now 0 t) t.new
  | none => o
def doneP (o : OutD) : Prop := o.all.length = 1 ∧ (baseS o.all).s = o.now
theorem round_ok {o : OutD} (h : OutOk o) (now wait : Int) : OutOk (roundP o now wait) := by
  have h1 := told_ok h now wait 0
  unfold toldP at h1
  unfold roundP
  cases e : tellP o now wait 0 with
  | none => exact h
  | some t =>
    rw [e] at h1
    simp only at h1 ⊢
    split
    · exact h1
    · exact heard_ok h1 _
theorem last_one {l : List Snt} (h : l.length = 1) : lastS l = baseS l := by unfold lastS baseS; rw [h]
theorem done_round {o : OutD} (hd : doneP o) (now wait : Int) : doneP (roundP o now wait) := by
  obtain ⟨h1, h2⟩ := hd
  have hs : stateP o now (clampW wait) = none := by
    unfold stateP
    rw [if_neg]
    simp only [stateDue, last_one h1, h2, Bool.and_eq_true, decide_eq_true_eq]
    simp
  have ha : againP o now (clampW wait) = none := by
    unfold againP
    rw [if_neg]
    simp [againDue, h1]
  unfold roundP
  cases e : tellP o now wait 0 with
  | none => exact ⟨h1, h2⟩
  | some t =>
    obtain ⟨-, hp⟩ := tellP_asked e
    unfold pickP at hp
    rw [hs, ha] at hp
    obtain ⟨-, rfl⟩ := wordP_some hp
    simp only [afterP]
    exact ⟨h1, h2⟩
/-- Times far behind. -/
structure Old (o : OutD) (now wait : Int) : Prop where
  oat : o.told = true → 20 ≤ now - o.at_
  all : ∀ x ∈ o.all, wait ≤ now - x.at_
  fineA : ∀ x ∈ o.all, fine x.s
  fineN : fine o.now
  small : (lastS o.all).n < 1000000
theorem findN_last {l : List Snt} (h : 0 < l.length) (hr : ∀ i, i < l.length → (l.getD i snt0).n = (baseS l).n + i) : findN l (lastS l).n = some (l.length - 1) := by
  unfold findN
  rw [List.findIdx?_eq_some_iff_getElem]
  have e : ∀ i (hi : i < l.length), l[i].n = (baseS l).n + i := fun i hi => by
    have := hr i hi
    rwa [List.getD_eq_getElem?_getD, List.getElem?_eq_getElem hi] at this
  have hl : (lastS l).n = (baseS l).n + (l.length - 1 : Nat) := hr _ (by omega)
  refine ⟨by omega, ?_, fun j hj => ?_⟩
  · rw [e _ (by omega), hl]; simp
  · rw [e _ (by omega), hl]; simp; omega
theorem drop_last {l : List Snt} (h : 0 < l.length) : l.drop (l.length - 1) = [lastS l] := by
  have hl : (l.drop (l.length - 1)).length = 1 := by simp; omega
  obtain ⟨x, hx⟩ := List.length_eq_one_iff.1 hl
  have : lastS l = (l.drop (l.length - 1)).getD 0 snt0 := by rw [drop_getD]; rfl
  rw [hx] at this ⊢
  rw [this]; simp
theorem heard_last {o : OutD} (h : OutOk o) : heardP o (lastS o.all).n = withAll o [lastS o.all] := by
  unfold heardP
  rw [findN_last h.pos h.rise]
  simp only
  rw [drop_last h.pos]
/-- A round that tells now's state. -/
theorem round_state {o : OutD} (h : OutOk o) {now wait : Int} (hw : 50 ≤ wait ∧ wait ≤ 1000) (ha : asked now 0) (hd : stateDue o now = true) (hf : ∀ x ∈ o.all, fine x.s) (hn : fine o.now) : doneP (roundP o now wait) := by
  have hc : clampW wait = wait := by unfold clampW; omega
  have hm := assumed_mem h.pos now wait
  have ht : tellP o now wait 0 = some ⟨sentMore o now, (assumed o.all now wait).n, (lastS o.all).n + 1, diffT (assumed o.all now wait).s o.now⟩ := by
    unfold tellP pickP stateP
    rw [if_pos ha, hc, if_pos hd, if_pos (fine_step (hf _ hm) hn)]
  have hle := (h.memN hm).2
  have hok := sent_ok (ack := 0) h ha hd
  unfold roundP
  rw [ht]
  simp only
  rw [if_neg (by omega)]
  have := heard_last hok
  simp only [sentMore, lastS_app] at this
  simp only [afterP, sentMore]
  rw [this]
  exact ⟨rfl, rfl⟩
/-- Any round, times far behind: it is done, or the base alone is left. -/
theorem round_first {o : OutD} (h : OutOk o) {now wait : Int} (hw : 50 ≤ wait ∧ wait ≤ 1000) (ha : asked now 0) (ho : Old o now wait) :
    doneP (roundP o now wait) ∨ ∃ x, (roundP o now wait).all = [x] ∧ fine x.s ∧ x.n < 1000000 ∧ (roundP o now wait).told = true ∧ (roundP o now wait).at_ = now ∧ (roundP o now wait).now = o.now := by
  have hc : clampW wait = wait := by unfold clampW; omega
  by_cases hd : stateDue o now = true
  · exact .inl (round_state h hw ha hd ho.fineA ho.fineN)
  · by_cases h1 : o.all.length = 1
    · have hs : since o.told o.at_ now 20 = false := by
        unfold since
        cases ht : o.told with
        | false => rfl
        | true => have := ho.oat ht; simp; omega
      have hsm := ho.small
      have hdone : doneP o := by
        refine ⟨h1, ?_⟩
        rw [← last_one h1]
        simp only [stateDue, hs, Bool.and_eq_true, decide_eq_true_eq] at hd
        by_cases e : o.now = (lastS o.all).s
        · exact e.symm
        · exact absurd ⟨⟨⟨by omega, by omega⟩, rfl⟩, e⟩ hd
      exact .inl (done_round hdone now wait)
    · have hp := h.pos
      have hl := lastS_mem hp
      have hg : againDue o.all now wait = true := by
        have := ho.all _ hl
        simp only [againDue, since, Bool.and_eq_true, decide_eq_true_eq, Bool.not_eq_true', Bool.and_eq_false_iff, decide_eq_false_iff_not]
        exact ⟨h1, .inr (by omega)⟩
      have ht : tellP o now wait 0 = some ⟨setLast o.all now, (baseS o.all).n, (lastS o.all).n, diffT (baseS o.all).s (lastS o.all).s⟩ := by
        unfold tellP pickP stateP againP
        rw [if_pos ha, hc, if_neg hd]
        simp only
        rw [if_pos hg, if_pos (fine_step (ho.fineA _ (baseS_mem hp)) (ho.fineA _ hl))]
      have hn := h.lastN
      have hok := again_ok (ack := 0) h ha (againDue_len hp hg)
      have hh := heard_last hok
      simp only [setLast_last hp] at hh
      unfold roundP
      rw [ht]
      simp only
      rw [if_neg (by omega)]
      simp only [afterP]
      rw [hh]
      exact .inr ⟨_, rfl, ho.fineA (lastS o.all) hl, ho.small, rfl, rfl, rfl⟩
theorem round_second {o : OutD} (h : OutOk o) {now wait : Int} {x : Snt} (hw : 50 ≤ wait ∧ wait ≤ 1000) (ha : asked now 0) (hx : o.all = [x]) (hf : fine x.s) (hn : x.n < 1000000) (hfn : fine o.now) (hat : o.at_ + wait = now) : doneP (roundP o now wait) := by
  have hl : lastS o.all = x := by rw [hx]; rfl
  by_cases e : o.now = x.s
  · exact done_round ⟨by rw [hx]; rfl, by rw [hx, e]; rfl⟩ now wait
  · refine round_state h hw ha ?_ (fun y hy => by rw [hx] at hy; simp at hy; rw [hy]; exact hf) hfn
    have hlen : o.all.length = 1 := by rw [hx]; rfl
    simp only [stateDue, hl, hlen, Bool.and_eq_true, decide_eq_true_eq, since, Bool.not_eq_true', Bool.and_eq_false_iff, decide_eq_false_iff_not]
    exact ⟨⟨⟨by simp, by omega⟩, .inr (by omega)⟩, e⟩
/-- So many rounds, a wait apart. -/
def roundsP (wait : Int) : Nat → OutD → Int → OutD
  | 0, o, _ => o
  | k + 1, o, now => roundP (roundsP wait k o now) (now + k * wait) wait
theorem arrives {o : OutD} (h : OutOk o) {now wait : Int} (hw : 50 ≤ wait ∧ wait ≤ 1000) (h0 : 0 ≤ now ∧ now ≤ 1099511000000) (ho : Old o now wait) (k : Nat) : doneP (roundsP wait (k + 2) o now) := by
  induction k with
  | zero =>
    show doneP (roundP (roundP o (now + ((0 : Nat) : Int) * wait) wait) (now + ((1 : Nat) : Int) * wait) wait)
    rw [show now + ((0 : Nat) : Int) * wait = now from by simp, show now + ((1 : Nat) : Int) * wait = now + wait from by simp]
    have ha : asked now 0 := ⟨by omega, by omega, by omega, by omega⟩
    have ha2 : asked (now + wait) 0 := ⟨by omega, by omega, by omega, by omega⟩
    rcases round_first h hw ha ho with hd | ⟨x, h1, h2, h3, h4, h5, h6⟩
    · exact done_round hd _ _
    · exact round_second (round_ok h now wait) hw ha2 h1 h2 h3 (by rw [h6]; exact ho.fineN) (by rw [h5])
  | succ k ih => exact done_round ih _ _
end Go.Proofs.Ytomdlfeaecknfaa
