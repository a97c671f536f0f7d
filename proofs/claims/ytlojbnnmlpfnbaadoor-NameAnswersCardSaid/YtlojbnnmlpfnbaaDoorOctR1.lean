/-
  The reference's two bytes of a number.
-/
import Derived.Test.YtlojbnnmlpfnbaaDoorOctW
set_option linter.unusedVariables false
namespace Go.Proofs.YtlojbnnmlpfnbaaDoor
open Go.RowKit

theorem beB_two (v : Int) (h0 : 0 ≤ v) (h1 : v ≤ 65535) : Lib.byteCells (beB v.toNat 2) = [.int .u8 (v / 256), .int .u8 (v % 256)] := by
  have e1 : ((UInt8.ofNat (v.toNat / 256 ^ 1 % 256)).toNat : Int) = v / 256 := by simp only [Nat.reducePow, UInt8.toNat_ofNat']; omega
  have e2 : ((UInt8.ofNat (v.toNat / 256 ^ 0 % 256)).toNat : Int) = v % 256 := by simp only [Nat.reducePow, UInt8.toNat_ofNat']; omega
  simp only [beB, Lib.byteCells, List.map_cons, List.map_nil, e1, e2]
set_option maxHeartbeats 400000 in
theorem rtwo (w : World) (v : Int) (h0 : 0 ≤ v) (h1 : v ≤ 65535) :
    Calls Tryd.prog 33 #[.int .i64 v] w fun e w' => e = .returned (.slice (some ⟨w.heap.size, 0, none⟩) 2 2) ∧ w' = w.alloc (.cells #[.int .u8 (v / 256), .int .u8 (v % 256)] 5) := by
  go_enter Tryd.func33, Tryd.ntmps33
  go_wp2
  go_ret
  exact ⟨rfl, rfl⟩
end Go.Proofs.YtlojbnnmlpfnbaaDoor
