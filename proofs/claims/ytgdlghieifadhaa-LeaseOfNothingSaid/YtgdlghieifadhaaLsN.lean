/-
  A nil client.
-/
import Derived.Test.YtgdlghieifadhaaLs3
set_option linter.unusedVariables false
namespace Go.Proofs.Ytgdlghieifadhaa
open Go.RowKit

theorem startN (now draw : Int) (w : World) : Calls Try.prog 11 #[.pointer none, .int .i64 now, .int .i64 draw] w fun e w' => e = .returned (.slice none 0 0) ∧ w' = w := by
  go_enter Try.func11, Try.ntmps11
  go_wp2
  go_ret
  exact ⟨rfl, rfl⟩
theorem stateN (w : World) : Calls Try.prog 13 #[.pointer none] w fun e w' => e = .returned (.int .i64 0) ∧ w' = w := by
  go_enter Try.func13, Try.ntmps13
  go_wp2
  go_ret
  exact ⟨rfl, rfl⟩
theorem hasN (w : World) : Calls Try.prog 36 #[.pointer none] w fun e w' => e = .returned (.bool false) ∧ w' = w := by
  go_enter Try.func36, Try.ntmps36
  go_wp2
  go_ret
  exact ⟨rfl, rfl⟩
theorem releaseN (w : World) : Calls Try.prog 18 #[.pointer none] w fun e w' => e = .returned (.slice none 0 0) ∧ w' = w := by
  go_enter Try.func18, Try.ntmps18
  go_wp2
  go_ret
  exact ⟨rfl, rfl⟩
set_option maxHeartbeats 800000 in
theorem tickN (now draw : Int) (w : World) : Calls Try.prog 15 #[.pointer none, .int .i64 now, .int .i64 draw] w fun e w' => e = .returned (.slice none 0 0) ∧ ∃ n, w' = w.drewN n := by
  go_enter Try.func15, Try.ntmps15
  go_wp2
  go_quiet (fail)
  go_wp2
  go_ret
  exact ⟨rfl, _, rfl⟩
set_option maxRecDepth 100000 in
set_option maxHeartbeats 800000 in
theorem hearN (m : Ls) (now draw : Int) (w : World) : Calls Try.prog 12 #[.pointer none, .agg m.cs.toArray, .int .i64 now, .int .i64 draw] w fun e w' => e = .returned (.slice none 0 0) ∧ Below w.heap.size w w' := by
  simp only [Ls.cs]
  go_enter Try.func12, Try.ntmps12
  go_wp2
  go_quiet (fail)
  go_wp2
  go_ret
  exact ⟨rfl, dn (al (rf w) _) _⟩
set_option maxHeartbeats 800000 in
theorem hasMN (w : World) : Calls Try.prog 16 #[.pointer none] w fun e w' => e = .returned (.tuple #[.agg zeroL.cs.toArray, .bool false]) ∧ Below w.heap.size w w' := by
  have R2 : Blk (w.alloc (.cells #[.int .i64 0, .int .u32 0, .int .u32 0, .int .u8 0, .int .u8 0, .int .u8 0, .int .u8 0, .int .u8 0, .int .u8 0, .int .i64 0, .int .u32 0, .int .u32 0, .int .i64 0, .int .u32 0, .int .u32 0, .int .u32 0] 27)) w.heap.size 27 zeroL.cs.toArray := Blk.new _ _ _
  have HR := Lib.hid R2; clear R2
  have bw : Below w.heap.size w (w.alloc (.cells #[.int .i64 0, .int .u32 0, .int .u32 0, .int .u8 0, .int .u8 0, .int .u8 0, .int .u8 0, .int .u8 0, .int .u8 0, .int .i64 0, .int .u32 0, .int .u32 0, .int .i64 0, .int .u32 0, .int .u32 0, .int .u32 0] 27)) := al (rf w) _
  go_enter Try.func16, Try.ntmps16
  go_wp2_with fail
  refine (hasN _).mono ?_
  rintro e w1 ⟨rfl, rfl⟩
  go_wp2_with ((with_reducible refine wpList_store_blk rfl 27 2 7 rfl w.heap.size 0 zeroL.cs (by kernel_rfl) (by kernel_rfl) 27 zeroL.cs HR.out (by rw [Ls.len]; decide) (by kernel_rfl) zeroL.one ?_); intro w3 hB3 g3)
  have hB4 : Blk w3 w.heap.size 27 zeroL.cs.toArray := by
    rw [show splice zeroL.cs 0 zeroL.cs = zeroL.cs by kernel_rfl] at hB3; exact hB3
  exact bodyPost_ret (v := .tuple #[.agg zeroL.cs.toArray, .bool false]) ((run_results_cell_tmp rfl _ _ _ _ _ _ _ rfl hB4 Try.underlying27 rfl (by kernel_rfl)).trans rfl) rfl ⟨rfl, bw.trans (below_only g3 (Nat.le_refl _) (by simp))⟩
end Go.Proofs.Ytgdlghieifadhaa
