/-
  Names: the reference's IsName.
-/
import Derived.Test.YtpfkmmmlocmakaaDoorNmPk
set_option linter.unusedVariables false
namespace Go.Proofs.YtpfkmmmlocmakaaDoor
open Go.RowKit

end Go.Proofs.YtpfkmmmlocmakaaDoor
