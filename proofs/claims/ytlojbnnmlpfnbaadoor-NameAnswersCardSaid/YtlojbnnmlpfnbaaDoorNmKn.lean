/-
  Names: the law's known name.
-/
import Derived.Test.YtlojbnnmlpfnbaaDoorNmP
import Derived.Test.YtlojbnnmlpfnbaaDoorNm
set_option linter.unusedVariables false
namespace Go.Proofs.YtlojbnnmlpfnbaaDoor
open Go.RowKit

set_option maxHeartbeats 800000 in
theorem known (w : World) : Calls Tryd.prog 11 #[] w fun e w' => e = .returned (.bool true) ∧ Below w.heap.size w w' := by
  have BN := Lib.hid (blk_bytes (l := [1, 97, 0, 1, 98, 192, 0]) (Blk.new w 5 #[.int .u8 1, .int .u8 97, .int .u8 0, .int .u8 1, .int .u8 98, .int .u8 192, .int .u8 0]) 0 (fun i hi => by
    match i, hi with
    | 0, _ => rfl
    | 1, _ => rfl
    | 2, _ => rfl
    | 3, _ => rfl
    | 4, _ => rfl
    | 5, _ => rfl
    | 6, _ => rfl))
  go_enter Tryd.func11, Tryd.ntmps11
  go_wp2_with fail
  refine (unpC w.heap.size 0 [1, 97, 0, 1, 98, 192, 0] 7 3 _ BN.out (by decide) (by decide) (by decide) _ unp_known).mono ?_
  rintro e w1 ⟨rfl, b1⟩
  have e1 : (⟨(jn [[98], [97]]).toArray⟩ : ByteArray) = ⟨#[98, 46, 97]⟩ := rfl
  rw [e1]
  clear e1
  go_wp2_with fail
  refine (sameC ⟨#[65, 46, 98]⟩ ⟨#[97, 46, 66]⟩ _ (by decide) (by decide)).mono ?_
  rintro e w2 ⟨rfl, n, rfl⟩
  have e2 : (low ⟨#[65, 46, 98]⟩ == low ⟨#[97, 46, 66]⟩) = true := by decide
  rw [e2]
  go_wp2
  go_ret
  exact ⟨rfl, dn (nx (al (rf w) _) b1) n⟩
end Go.Proofs.YtlojbnnmlpfnbaaDoor
