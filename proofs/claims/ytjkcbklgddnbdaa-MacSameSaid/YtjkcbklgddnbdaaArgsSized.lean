/- How long a byte slice that is read can be; append onto a new slice of any such bytes. Conditions stand in the statements. -/
import Derived.Test.YtjkcbklgddnbdaaArgs
import Derived.Test.YtjkcbklgddnbdaaAppStep
import Derived.SizedLaws
namespace Go.Proofs.Ytjkcbklgddnbdaa
open Go.ChangeShapes Go.WideShapes Go.ChangeAt Go.RowKit Go.Deep
section
variable {P : Program} {H : Type} {enc : TypeId × Value → H} {w : World} {base : Nat} {spare : Nat → Bool} {held : Bool}
theorem size_of_slice {t e : TypeId} {fuel : Nat} {A : Option Addr} {n c : Nat} {x : DataW H × List MemPlace} {ts : List TypeId} {ds : List (DataW H)} {j : Nat} (ht : P.underlying t = some (.slice e)) (hb : P.bytesOf e = 1)
    (hs : (DataW.weightsEach P ts ds).all (· ≤ reachBytes) = true) (hj : ts[j]? = some t) (hd : ds[j]? = some x.1) (h : DataW.trod enc P w base spare held fuel t [.slice A n c] = some x) : n ≤ 140737488351232 := by
  rcases open_slice ht h with ⟨hcs, _⟩ | ⟨a, len, cap, m, nn, D, Pl, hcs, _, _, _, _, hx, _⟩
  · simp at hcs
    omega
  · simp at hcs
    rw [hx] at hd
    have := sized_slice hs hj hd ht
    simp only [List.length_map, List.length_range, hb, reachBytes] at this
    omega
theorem rdb_len {w : World} {A : Option Addr} {n c : Nat} {d : List UInt8} (h : RdB w (.slice A n c) d) : d.length = n := by
  obtain ⟨A', c', hv, _⟩ := h.form
  injection hv with _ hn _
  exact hn.symm
end
theorem infoB1 : (Try.prog.info? 5).map (fun i => (i.zero, i.size, i.bytes)) = some (some (.int .u8 0), 1, 1) := by kernel_rfl
theorem wp_append_new {o : Oper} {w0 w : World} {K : Act → World → Prop} {a : Act} {Q : Exit → Act → World → Prop} {g : Nat} {v2 : Value} {e : List UInt8} (s x : Operand) (ho : o.op = .call { callee := .builtin .append, args := #[s, x], argTypes := #[22, 22] })
    (hf : Fr0 w0 w) (hg : Blk w g #[] 5) (hb : w0.heap.size ≤ g) (hs : a.eval s = .slice (some ⟨g, 0, none⟩) 0 0) (hr : RdB w v2 e) (hx : a.eval x = v2) (hl : e.length ≤ 140737488351232)
    (hK : ∀ A c w', RdB w' (.slice A e.length c) e → Fr0 w0 w' → K (a.put o.dst (.slice A (0 + e.length) c)) w') :
    Oper.wp Try.prog o a w K Q := by
  obtain ⟨i, hi, hz0, hz1, hz2⟩ := info_parts infoB1
  obtain ⟨A, c, w', hrun, hown, hf'⟩ := run_append_rd (P := Try.prog) hf 22 o.type 5 i _ 1 1 Try.underlying22 hi hz0 hz1 hz2 rfl (by decide) (.slice (some ⟨g, 0, none⟩) 0 0) 0 [] (own_empty (size := 1) hg hb) v2 e.length (byts e) hr (byts_one e) (by unfold maxLen; omega) (by omega)
  unfold Oper.wp execOp
  simp only [ho, resolve, invoke, builtin, Sem.run_bind, Sem.run_pure, Result.andThen_ok, List.map_toArray, List.map_cons, List.map_nil, hs, hx, hrun]
  refine hK A c w' ?_ hf'
  have h := Rd.of_own hown
  rw [List.nil_append, Nat.zero_add] at h
  exact h
end Go.Proofs.Ytjkcbklgddnbdaa
