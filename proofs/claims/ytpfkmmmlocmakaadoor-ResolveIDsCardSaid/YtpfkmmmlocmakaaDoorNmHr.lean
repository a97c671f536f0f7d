/-
  Names: a question's head in the reference.
-/
import Derived.Test.YtpfkmmmlocmakaaDoorNmHd
set_option linter.unusedVariables false
namespace Go.Proofs.YtpfkmmmlocmakaaDoor
open Go.RowKit

theorem two_bytes {w : World} {base : Nat} {A : Option Addr} {c : Nat} {v : Nat} (h : w.ownsRow base 5 1 (.slice A 2 c) 2 (Lib.byteCells (beB v 2))) : Bytes w A (beB v 2) := by
  have e : (2 : Nat) = (beB v 2).length := by rw [beB_len]
  have h2 : w.ownsRow base 5 1 (.slice A (beB v 2).length c) (beB v 2).length (Lib.byteCells (beB v 2)) := by rw [← e]; exact h
  exact Bytes.own h2
end Go.Proofs.YtpfkmmmlocmakaaDoor
