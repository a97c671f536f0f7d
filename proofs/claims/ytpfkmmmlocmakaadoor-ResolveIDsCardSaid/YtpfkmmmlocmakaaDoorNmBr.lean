/-
  Names: the reference's test of a record's numbers.
-/
import Derived.Test.YtpfkmmmlocmakaaDoorNmHr
set_option linter.unusedVariables false
namespace Go.Proofs.YtpfkmmmlocmakaaDoor
open Go.RowKit

-- q: the record is a question
def badR (t c u : Int) (q : Bool) : Bool := decide (t < 0) || decide (65535 < t) || decide (c < 0) || decide (65535 < c) || (!q && (decide (u < 0) || decide (2147483647 < u)))
def badI (t c u : Int) (q : Bool) : Int := if badR t c u q = true then 1 else 0
end Go.Proofs.YtpfkmmmlocmakaaDoor
