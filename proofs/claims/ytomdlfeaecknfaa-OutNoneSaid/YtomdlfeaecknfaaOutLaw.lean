/- What a sender of texts tells, as plain functions of lists; no program in sight. No condition. -/
import Derived.Test.YtomdlfeaecknfaaBase
namespace Go.Proofs.Ytomdlfeaecknfaa

/-- A state that was told. -/
structure Snt where
  n : Int
  s : ByteArray
  told : Bool
  at_ : Int
/-- A sender. -/
structure OutD where
  now : ByteArray
  all : List Snt
  ack : Int
  told : Bool
  at_ : Int
def snt0 : Snt := ⟨0, ⟨#[]⟩, false, 0⟩
def lastS (l : List Snt) : Snt := l.getD (l.length - 1) snt0
def baseS (l : List Snt) : Snt := l.getD 0 snt0
def outNew (s : ByteArray) : OutD := ⟨s, [⟨0, s, false, 0⟩], 0, false, 0⟩
def bang (s : ByteArray) : Bool := decide (0 < s.size) && s.data.getD 0 0 == 33
def diffT (a b : ByteArray) : List UInt8 := (a ++ ⟨#[62]⟩ ++ b).data.toList
def okStep (a b : ByteArray) : Bool := !bang a && !bang b && decide (a.size + 1 + b.size ≤ 65496)
def since (told : Bool) (at_ now less : Int) : Bool := told && decide (now - at_ < less)
def assumed (l : List Snt) (now wait : Int) : Snt := l.foldl (fun o x => if since x.told x.at_ now wait = true then x else o) (baseS l)
/-- What comes of telling: the sender behind it, and the instruction's numbers and its Diff. -/
structure Told where
  all : List Snt
  old : Int
  new : Int
  d : List UInt8
def sentMore (o : OutD) (now : Int) : List Snt := o.all ++ [⟨(lastS o.all).n + 1, o.now, true, now⟩]
/-- Is a state due, but for the step? -/
def stateDue (o : OutD) (now : Int) : Bool := decide (o.all.length ≤ 8) && decide ((lastS o.all).n < 1099511627776) && !since o.told o.at_ now 20 && decide (o.now ≠ (lastS o.all).s)
def stateP (o : OutD) (now wait : Int) : Option Told :=
  if stateDue o now = true then
    if okStep (assumed o.all now wait).s o.now = true then some ⟨sentMore o now, (assumed o.all now wait).n, (lastS o.all).n + 1, diffT (assumed o.all now wait).s o.now⟩
    else if okStep (baseS o.all).s o.now = true then some ⟨sentMore o now, (baseS o.all).n, (lastS o.all).n + 1, diffT (baseS o.all).s o.now⟩
    else none
  else none
def setLast (l : List Snt) (now : Int) : List Snt := l.take (l.length - 1) ++ [{ lastS l with at_ := now }]
def againDue (l : List Snt) (now wait : Int) : Bool := decide (l.length ≠ 1) && !since (lastS l).told (lastS l).at_ now wait
def againP (o : OutD) (now wait : Int) : Option Told :=
  if againDue o.all now wait = true then
    if okStep (baseS o.all).s (lastS o.all).s = true then some ⟨setLast o.all now, (baseS o.all).n, (lastS o.all).n, diffT (baseS o.all).s (lastS o.all).s⟩ else none
  else none
def wordDue (o : OutD) (now ack : Int) : Bool := !(decide (ack ≤ o.ack) && since o.told o.at_ now 300)
def wordP (o : OutD) (now ack : Int) : Option Told := if wordDue o now ack = true then some ⟨o.all, (baseS o.all).n, (baseS o.all).n, []⟩ else none
def asked (now ack : Int) : Prop := 0 ≤ now ∧ now ≤ 1099511627776 ∧ 0 ≤ ack ∧ ack ≤ 1099511627776
instance (now ack : Int) : Decidable (asked now ack) := by unfold asked; infer_instance
def clampW (wait : Int) : Int := max 50 (min wait 1000)
/-- What is told, if anything. -/
def pickP (o : OutD) (now wait ack : Int) : Option Told :=
  match stateP o now wait with
  | some t => some t
  | none => match againP o now wait with
    | some t => some t
    | none => wordP o now ack
def afterP (o : OutD) (now ack : Int) (t : Told) : OutD := ⟨o.now, t.all, max o.ack ack, true, now⟩
def tellP (o : OutD) (now wait ack : Int) : Option Told := if asked now ack then pickP o now (clampW wait) ack else none
def toldP (o : OutD) (now wait ack : Int) : OutD := match tellP o now wait ack with
  | some t => afterP o now ack t
  | none => o
def findN (l : List Snt) (ack : Int) : Option Nat := l.findIdx? (fun x => x.n == ack)
abbrev withNow (o : OutD) (s : ByteArray) : OutD := ⟨s, o.all, o.ack, o.told, o.at_⟩
abbrev withAll (o : OutD) (l : List Snt) : OutD := ⟨o.now, l, o.ack, o.told, o.at_⟩
def heardP (o : OutD) (ack : Int) : OutD := match findN o.all ack with
  | some i => withAll o (o.all.drop i)
  | none => o

/-- What every sender bears: somebody is sent; all but the first were told; numbers rise one by one; times and numbers are small. -/
structure OutOk (o : OutD) : Prop where
  pos : 0 < o.all.length
  le : o.all.length ≤ 9
  told : ∀ i, 0 < i → i < o.all.length → (o.all.getD i snt0).told = true
  rise : ∀ i, i < o.all.length → (o.all.getD i snt0).n = (baseS o.all).n + i
  n0 : 0 ≤ (baseS o.all).n
  nm : (lastS o.all).n ≤ 1099511627776
  at0 : ∀ x ∈ o.all, 0 ≤ x.at_ ∧ x.at_ ≤ 1099511627776
  oat : 0 ≤ o.at_ ∧ o.at_ ≤ 1099511627776
  ack : 0 ≤ o.ack ∧ o.ack ≤ 1099511627776

theorem getD_mem {l : List Snt} {i : Nat} (h : i < l.length) : l.getD i snt0 ∈ l := by
  rw [List.getD_eq_getElem?_getD, List.getElem?_eq_getElem h]; exact List.getElem_mem h
theorem lastS_mem {l : List Snt} (h : 0 < l.length) : lastS l ∈ l := getD_mem (by omega)
theorem baseS_mem {l : List Snt} (h : 0 < l.length) : baseS l ∈ l := getD_mem h
theorem foldl_pick (l : List Snt) (f : Snt → Bool) (b : Snt) : l.foldl (fun o x => if f x = true then x else o) b = b ∨ l.foldl (fun o x => if f x = true then x else o) b ∈ l := by
  induction l generalizing b with
  | nil => exact .inl rfl
  | cons x r ih =>
    simp only [List.foldl_cons]
    by_cases h : f x = true
    · rw [if_pos h]
      rcases ih x with h1 | h1
      · rw [h1]; exact .inr (List.mem_cons_self ..)
      · exact .inr (List.mem_cons_of_mem _ h1)
    · rw [if_neg h]
      rcases ih b with h1 | h1
      · exact .inl h1
      · exact .inr (List.mem_cons_of_mem _ h1)
theorem assumed_mem {l : List Snt} (h : 0 < l.length) (now wait : Int) : assumed l now wait ∈ l := by
  unfold assumed
  rcases foldl_pick l (fun x => since x.told x.at_ now wait) (baseS l) with h1 | h1
  · rw [h1]; exact baseS_mem h
  · exact h1
theorem lastS_app (l : List Snt) (x : Snt) : lastS (l ++ [x]) = x := by simp [lastS, List.getD_eq_getElem?_getD]
theorem baseS_app {l : List Snt} (h : 0 < l.length) (x : Snt) : baseS (l ++ [x]) = baseS l := by
  unfold baseS
  rw [List.getD_eq_getElem?_getD, List.getD_eq_getElem?_getD, List.getElem?_append_left h]
theorem getD_app {l : List Snt} {i : Nat} (h : i < l.length) (x : Snt) : (l ++ [x]).getD i snt0 = l.getD i snt0 := by
  rw [List.getD_eq_getElem?_getD, List.getD_eq_getElem?_getD, List.getElem?_append_left h]
theorem getD_app_eq (l : List Snt) (x : Snt) {i : Nat} (hi : i = l.length) : (l ++ [x]).getD i snt0 = x := by
  subst hi; rw [List.getD_eq_getElem?_getD]; simp
theorem OutOk.lastN {o : OutD} (h : OutOk o) : (lastS o.all).n = (baseS o.all).n + (o.all.length - 1 : Nat) := h.rise _ (by have := h.pos; omega)
theorem OutOk.memN {o : OutD} (h : OutOk o) {x : Snt} (hx : x ∈ o.all) : (baseS o.all).n ≤ x.n ∧ x.n ≤ (lastS o.all).n := by
  obtain ⟨i, hi, rfl⟩ := List.getElem_of_mem hx
  have := h.rise i hi
  rw [List.getD_eq_getElem?_getD, List.getElem?_eq_getElem hi] at this
  have h2 := h.lastN
  simp at this
  omega
theorem new_ok (s : ByteArray) : OutOk (outNew s) := by
  refine ⟨by simp [outNew], by simp [outNew], ?_, ?_, by simp [outNew, baseS], by simp [outNew, lastS], ?_, by simp [outNew], by simp [outNew]⟩
  · intro i h1 h2; simp [outNew] at h2; omega
  · intro i h; simp [outNew] at h; subst h; simp [outNew, baseS]
  · intro x hx; simp [outNew] at hx; subst hx; simp
theorem set_ok {o : OutD} (h : OutOk o) (s : ByteArray) : OutOk (withNow o s) := ⟨h.pos, h.le, h.told, h.rise, h.n0, h.nm, h.at0, h.oat, h.ack⟩
theorem drop_getD (l : List Snt) (k i : Nat) : (l.drop k).getD i snt0 = l.getD (k + i) snt0 := by
  rw [List.getD_eq_getElem?_getD, List.getD_eq_getElem?_getD, List.getElem?_drop]
theorem drop_ok {o : OutD} (h : OutOk o) {k : Nat} (hk : k < o.all.length) : OutOk (withAll o (o.all.drop k)) := by
  have hb : baseS (o.all.drop k) = o.all.getD k snt0 := by unfold baseS; rw [drop_getD]; rfl
  have hl : lastS (o.all.drop k) = lastS o.all := by unfold lastS; rw [drop_getD, List.length_drop]; congr 1; omega
  have hle := h.le
  have h0 := h.n0
  refine ⟨by simp; omega, by simp; omega, ?_, ?_, ?_, ?_, fun x hx => h.at0 x (List.mem_of_mem_drop hx), h.oat, h.ack⟩
  · intro i h1 h2; simp only [drop_getD, List.length_drop] at *; exact h.told _ (by omega) (by omega)
  · intro i h1; simp only [List.length_drop] at h1; simp only [hb, drop_getD]; rw [h.rise _ (by omega), h.rise _ hk]; simp; omega
  · simp only [hb]; rw [h.rise _ hk]; omega
  · simp only [hl]; exact h.nm
theorem heard_ok {o : OutD} (h : OutOk o) (ack : Int) : OutOk (heardP o ack) := by
  unfold heardP
  cases e : findN o.all ack with
  | none => exact h
  | some i =>
    obtain ⟨hi, _⟩ := List.findIdx?_eq_some_iff_getElem.1 e
    exact drop_ok h hi
theorem sent_ok {o : OutD} (h : OutOk o) {now ack : Int} (ha : asked now ack) (hd : stateDue o now = true) : OutOk ⟨o.now, sentMore o now, max o.ack ack, true, now⟩ := by
  simp only [stateDue, Bool.and_eq_true, decide_eq_true_eq] at hd
  obtain ⟨⟨⟨h1, h2⟩, -⟩, -⟩ := hd
  obtain ⟨a1, a2, a3, a4⟩ := ha
  have hp := h.pos
  have hn := h.lastN
  have hk := h.ack
  have hn0 := h.n0
  refine ⟨by simp [sentMore], by simp [sentMore]; omega, ?_, ?_, ?_, ?_, ?_, ⟨a1, a2⟩, ?_⟩
  · intro i i1 i2
    simp only [sentMore, List.length_append, List.length_cons, List.length_nil] at i2 ⊢
    by_cases hi : i < o.all.length
    · rw [getD_app hi]; exact h.told i i1 hi
    · rw [getD_app_eq _ _ (by omega)]
  · intro i i2
    simp only [sentMore, List.length_append, List.length_cons, List.length_nil] at i2 ⊢
    rw [baseS_app hp]
    by_cases hi : i < o.all.length
    · rw [getD_app hi]; exact h.rise i hi
    · rw [getD_app_eq _ _ (by omega)]; simp only; omega
  · simp only [sentMore]; rw [baseS_app hp]; exact h.n0
  · simp only [sentMore]; rw [lastS_app]; simp only; omega
  · intro x hx
    simp only [sentMore, List.mem_append, List.mem_singleton] at hx
    rcases hx with hx | rfl
    · exact h.at0 x hx
    · exact ⟨a1, a2⟩
  · simp only; omega
theorem setLast_len {l : List Snt} (h : 0 < l.length) (now : Int) : (setLast l now).length = l.length := by simp [setLast]; omega
theorem setLast_getD {l : List Snt} (h : 0 < l.length) (now : Int) (i : Nat) (hi : i < l.length) : (setLast l now).getD i snt0 = if i = l.length - 1 then { lastS l with at_ := now } else l.getD i snt0 := by
  unfold setLast
  split
  · rename_i hi; rw [getD_app_eq _ _ (by simp; omega)]
  · rename_i hne
    rw [getD_app (by simp; omega), List.getD_eq_getElem?_getD, List.getD_eq_getElem?_getD, List.getElem?_take, if_pos (by omega)]
theorem setLast_base {l : List Snt} (h : 1 < l.length) (now : Int) : baseS (setLast l now) = baseS l := by
  unfold baseS; rw [setLast_getD (by omega) now 0 (by omega), if_neg (by omega)]
theorem setLast_last {l : List Snt} (h : 0 < l.length) (now : Int) : lastS (setLast l now) = { lastS l with at_ := now } := by
  conv => lhs; unfold lastS
  rw [setLast_len h, setLast_getD h now _ (by omega), if_pos rfl]
theorem again_ok {o : OutD} (h : OutOk o) {now ack : Int} (ha : asked now ack) (hd : 1 < o.all.length) : OutOk ⟨o.now, setLast o.all now, max o.ack ack, true, now⟩ := by
  obtain ⟨a1, a2, a3, a4⟩ := ha
  have hp := h.pos
  have hl := setLast_len hp now
  have hk := h.ack
  refine ⟨by simp only; omega, by simp only [hl]; exact h.le, ?_, ?_, ?_, ?_, ?_, ⟨a1, a2⟩, by simp only; omega⟩
  · intro i i1 i2
    simp only [hl] at i2 ⊢
    rw [setLast_getD hp now i i2]
    split
    · exact h.told _ (by omega) (by omega)
    · exact h.told i i1 i2
  · intro i i2
    simp only [hl] at i2 ⊢
    rw [setLast_getD hp now i i2, setLast_base hd]
    split
    · rename_i e; simp only; rw [h.lastN]; simp [e]
    · exact h.rise i i2
  · simp only; rw [setLast_base hd]; exact h.n0
  · simp only; rw [setLast_last hp]; exact h.nm
  · intro x hx
    simp only [setLast, List.mem_append, List.mem_singleton] at hx
    rcases hx with hx | rfl
    · exact h.at0 x (List.mem_of_mem_take hx)
    · exact ⟨a1, a2⟩
theorem againDue_len {l : List Snt} (h : 0 < l.length) {now wait : Int} (hd : againDue l now wait = true) : 1 < l.length := by
  simp only [againDue, Bool.and_eq_true, decide_eq_true_eq] at hd; omega
theorem stateP_some {o : OutD} {now wait : Int} {t : Told} (h : stateP o now wait = some t) : stateDue o now = true ∧ t.all = sentMore o now ∧ t.new = (lastS o.all).n + 1 ∧ ((okStep (assumed o.all now wait).s o.now = true ∧ t.old = (assumed o.all now wait).n ∧ t.d = diffT (assumed o.all now wait).s o.now) ∨ (okStep (baseS o.all).s o.now = true ∧ t.old = (baseS o.all).n ∧ t.d = diffT (baseS o.all).s o.now)) := by
  unfold stateP at h
  split at h
  · rename_i hd
    split at h
    · rename_i h1; cases h; exact ⟨hd, rfl, rfl, .inl ⟨h1, rfl, rfl⟩⟩
    · split at h
      · rename_i h1; cases h; exact ⟨hd, rfl, rfl, .inr ⟨h1, rfl, rfl⟩⟩
      · cases h
  · cases h
theorem againP_some {o : OutD} {now wait : Int} {t : Told} (h : againP o now wait = some t) : againDue o.all now wait = true ∧ okStep (baseS o.all).s (lastS o.all).s = true ∧ t = ⟨setLast o.all now, (baseS o.all).n, (lastS o.all).n, diffT (baseS o.all).s (lastS o.all).s⟩ := by
  unfold againP at h
  split at h
  · rename_i hd
    split at h
    · rename_i h1; cases h; exact ⟨hd, h1, rfl⟩
    · cases h
  · cases h
theorem wordP_some {o : OutD} {now ack : Int} {t : Told} (h : wordP o now ack = some t) : wordDue o now ack = true ∧ t = ⟨o.all, (baseS o.all).n, (baseS o.all).n, []⟩ := by
  unfold wordP at h
  split at h
  · rename_i hd; cases h; exact ⟨hd, rfl⟩
  · cases h
theorem pickP_some {o : OutD} {now wait ack : Int} {t : Told} (h : pickP o now wait ack = some t) : stateP o now wait = some t ∨ (stateP o now wait = none ∧ againP o now wait = some t) ∨ (stateP o now wait = none ∧ againP o now wait = none ∧ wordP o now ack = some t) := by
  unfold pickP at h
  split at h
  · rename_i e; cases h; exact .inl e
  · rename_i e
    split at h
    · rename_i e2; cases h; exact .inr (.inl ⟨e, e2⟩)
    · rename_i e2; exact .inr (.inr ⟨e, e2, h⟩)
theorem told_ok {o : OutD} (h : OutOk o) (now wait ack : Int) : OutOk (toldP o now wait ack) := by
  unfold toldP
  cases e : tellP o now wait ack with
  | none => exact h
  | some t =>
    unfold tellP at e
    split at e
    · rename_i ha
      simp only [afterP]
      rcases pickP_some e with h1 | ⟨-, h1⟩ | ⟨-, -, h1⟩
      · obtain ⟨hd, ht, -⟩ := stateP_some h1
        rw [ht]; exact sent_ok h ha hd
      · obtain ⟨hd, -, ht⟩ := againP_some h1
        rw [ht]; exact again_ok h ha (againDue_len h.pos hd)
      · obtain ⟨-, ht⟩ := wordP_some h1
        rw [ht]
        obtain ⟨a1, a2, a3, a4⟩ := ha
        have hk := h.ack
        exact ⟨h.pos, h.le, h.told, h.rise, h.n0, h.nm, h.at0, ⟨a1, a2⟩, by simp only; omega⟩
    · cases e
end Go.Proofs.Ytomdlfeaecknfaa
