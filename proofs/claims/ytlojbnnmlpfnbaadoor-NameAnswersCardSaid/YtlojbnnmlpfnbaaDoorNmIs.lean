/-
  Names: the reference's IsName.
-/
import Derived.Test.YtlojbnnmlpfnbaaDoorNmRp
set_option linter.unusedVariables false
namespace Go.Proofs.YtlojbnnmlpfnbaaDoor
open Go.RowKit

theorem isNameC (s : ByteArray) (w : World) (hs : s.size ≤ 1000000) : Calls Tryd.prog 32 #[.string s] w (fun e w' => e = .returned (.bool (isN s.data.toList)) ∧ Below w.heap.size w w') := by
  go_enter Tryd.func32, Tryd.ntmps32
  go_wp2_with fail
  refine (rlabelsC s w hs).mono ?_
  rintro e w1 (⟨hN, v, rfl, own, b1⟩ | ⟨hN, rfl, b1⟩)
  · have HN := Lib.hid hN
    clear hN own
    go_wp2
    go_ret
    exact ⟨by rw [HN.out]; rfl, b1⟩
  · have HN := Lib.hid hN
    clear hN
    go_wp2
    go_ret
    exact ⟨by rw [HN.out]; rfl, b1⟩
end Go.Proofs.YtlojbnnmlpfnbaaDoor
