/-
  Groups: a message is itself.
-/
import Derived.Test.YtjkmkafceeblpaaIgM
import Derived.Laws.StructEq
set_option linter.unusedVariables false
namespace Go.Proofs.Ytjkmkafceeblpaa
open Go.RowKit
theorem eql_igmp (ty mx gr : Int) (w : World) : (binOp .eql 27 (.agg #[.int .i64 ty, .int .i64 mx, .int .u32 gr]) (.agg #[.int .i64 ty, .int .i64 mx, .int .u32 gr])).run Try.prog w = .ok (.bool true) w := by
  rw [run_eql_struct, run_equalIn_agg w 9999 27 _ _ (by unfold Program.fieldsOf; rw [Try.underlying27]) (by kernel_rfl)]
  unfold Program.fieldsOf
  rw [Try.underlying27]
  have h1 := fun (a b : Int) => run_equalIn_int (P := Try.prog) w 9998 3 .i64 .i64 a b Try.underlying3
  have h2 := fun (a b : Int) => run_equalIn_int (P := Try.prog) w 9998 25 .u32 .u32 a b Try.underlying25
  simp [Op.eqFields, part, Try.isAgg3, Try.isAgg25, h1, h2]
end Go.Proofs.Ytjkmkafceeblpaa
