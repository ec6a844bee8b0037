/- Bytes of the call's own, and their texts. Conditions stand in the statements. -/
import Derived.Test.YtpmindbipclphaaRows
import Derived.Test.YtpmindbipclphaaBytes
import Derived.KernelRfl
namespace Go.Proofs.Ytpmindbipclphaa
open Go.RowKit

theorem infoU8 : (Try.prog.info? 5).map (fun i => (i.zero, i.size, i.bytes)) = some (some (.int .u8 0), 1, 1) := by kernel_rfl
theorem strI (d : List UInt8) : (str d).toList = d := by rw [ByteArray.toList_eq]; exact str_toList d
/-- A piece of the call's own: its value reads as bytes, and its text. -/
theorem own_text {w w0 : World} {v : Value} {d : List UInt8} (h : w.ownsRow w0.heap.size 5 1 v d.length (byts d)) :
    ∃ A c, v = .slice A d.length c ∧ RdB w (.slice A d.length c) d ∧ (convert 35 9 (.slice A d.length c)).run Try.prog w = .ok (.string (str d)) w := by
  obtain ⟨A, c, rfl, _⟩ := own_form h
  exact ⟨A, c, rfl, RdB.of_own h, conv_bytes w _ _ _ Try.underlying35 Try.underlying5 Try.underlying9 (RdB.of_own h)⟩

theorem conv_own {w : World} {A : Option Addr} {c : Nat} {d : List UInt8} (h : RdB w (.slice A d.length c) d) : (convert 35 9 (.slice A d.length c)).run Try.prog w = .ok (.string (str d)) w :=
  conv_bytes w _ _ _ Try.underlying35 Try.underlying5 Try.underlying9 h

/-- The same, the length spelled as asked. -/
theorem own_textN {w w0 : World} {v : Value} {d : List UInt8} {n : Nat} (hn : d.length = n) (h : w.ownsRow w0.heap.size 5 1 v d.length (byts d)) :
    ∃ A c, v = .slice A n c ∧ RdB w (.slice A n c) d ∧ (convert 35 9 (.slice A n c)).run Try.prog w = .ok (.string (str d)) w := by
  subst hn; exact own_text h
theorem conv_ownN {w : World} {A : Option Addr} {c : Nat} {d : List UInt8} {n : Nat} (hn : d.length = n) (h : RdB w (.slice A n c) d) : (convert 35 9 (.slice A n c)).run Try.prog w = .ok (.string (str d)) w := by
  subst hn; exact conv_own h

end Go.Proofs.Ytpmindbipclphaa
