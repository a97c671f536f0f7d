/-
  Two messages that are the same are found the same.
-/
import Derived.Test.YtgdlghieifadhaaLr3
import Derived.Laws.StructEq
set_option linter.unusedVariables false
namespace Go.Proofs.Ytgdlghieifadhaa
open Go.RowKit

theorem eqMac_self (a : M6) (d : Nat) (w : World) : (Op.equalIn (d + 2) 25 (.agg #[.int .u8 a.a, .int .u8 a.b, .int .u8 a.c, .int .u8 a.d, .int .u8 a.e, .int .u8 a.f]) (.agg #[.int .u8 a.a, .int .u8 a.b, .int .u8 a.c, .int .u8 a.d, .int .u8 a.e, .int .u8 a.f])).run Try.prog w = .ok true w := by
  obtain ⟨i, hi⟩ := Option.isSome_iff_exists.1 (show (Try.prog.info? 5).isSome = true by kernel_rfl)
  have h := run_equalIn_array w (d + 1) (a.l.map (Value.int .u8)).toArray (a.l.map (Value.int .u8)).toArray Try.underlying25 hi
  rw [show Try.prog.cellsOf 5 = 1 by kernel_rfl, run_eqItems_int w d Try.underlying5 Try.isAgg5 a.l a.l (List.range 6) (fun j hj => by rw [List.mem_range] at hj; exact ⟨hj, hj⟩)] at h
  rw [show ((List.range 6).all fun j => a.l.getD j 0 == a.l.getD j 0) = true by simp] at h
  exact h
set_option maxHeartbeats 800000 in
theorem eql_self (m : Ls) (w : World) : (binOp .eql 27 (.agg m.cs.toArray) (.agg m.cs.toArray)).run Try.prog w = .ok (.bool true) w := by
  have hm := eqMac_self m.cl 9997 w
  rw [run_eql_struct, run_equalIn_struct w 9999 27 _ _ (by kernel_rfl) (by kernel_rfl)]
  have hf := (show some (TypeDesc.struct (Try.prog.fieldsOf 27)) = Try.prog.underlying 27 by kernel_rfl).trans Try.underlying27
  injection hf with hf
  injection hf with hf
  rw [hf]
  have s25 : ∀ w, (sizeOf 25).run Try.prog w = .ok 6 w := fun w => by kernel_rfl
  have a25 : ∀ w, (isAgg 25).run Try.prog w = .ok true w := fun w => by kernel_rfl
  have a3 : ∀ w, (isAgg 3).run Try.prog w = .ok false w := fun w => by kernel_rfl
  have a22 : ∀ w, (isAgg 22).run Try.prog w = .ok false w := fun w => by kernel_rfl
  have a23 : ∀ w, (isAgg 23).run Try.prog w = .ok false w := fun w => by kernel_rfl
  have i3 : ∀ a w, (Op.equalIn 9999 3 (.int .i64 a) (.int .i64 a)).run Try.prog w = .ok true w := fun a w => by rw [run_equalIn_int w 9998 3 .i64 .i64 a a Try.underlying3]; simp
  have i22 : ∀ a w, (Op.equalIn 9999 22 (.int .u32 a) (.int .u32 a)).run Try.prog w = .ok true w := fun a w => by rw [run_equalIn_int w 9998 22 .u32 .u32 a a Try.underlying22]; simp
  have i23 : ∀ a w, (Op.equalIn 9999 23 (.int .u32 a) (.int .u32 a)).run Try.prog w = .ok true w := fun a w => by rw [run_equalIn_int w 9998 23 .u32 .u32 a a Try.underlying23]; simp
  simp [Ls.cs, Op.eqFields, part, s25, a25, a3, a22, a23, i3, i22, i23, hm, Sem.run_bind]
end Go.Proofs.Ytgdlghieifadhaa
