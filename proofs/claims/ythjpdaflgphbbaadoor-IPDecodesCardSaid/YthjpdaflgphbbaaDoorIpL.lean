/-
  IP: what the laws on packets share.
-/
import Derived.Test.YthjpdaflgphbbaaDoorIpK
import Derived.Test.YthjpdaflgphbbaaDoorIpRe
import Derived.Test.YthjpdaflgphbbaaDoorIpOp
import Derived.Test.YthjpdaflgphbbaaDoorHelp6
set_option linter.unusedVariables false
namespace Go.Proofs.YthjpdaflgphbbaaDoor
open Go.RowKit

set_option maxHeartbeats 800000 in
theorem longC (w : World) (p : Pk) (o d : Value) (h : AnyPk w p o d) : Calls Tryd.prog 11 #[.agg (p.cs o d).toArray] w fun e w' => e = .returned (.bool (decide (70000 < p.da.length) || decide (4000 < p.op.length))) ∧ Below w.heap.size w w' := by
  obtain ⟨⟨A, c, rfl, _, _⟩, ⟨B, e, rfl, _, _⟩, _, _, _, _, _⟩ := h
  unfold Pk.cs
  by_cases h1 : 70000 < p.da.length
  · have i1 : (70000 : Int) < p.da.length := by omega
    have hr : Hid ((decide (70000 < p.da.length) || decide (4000 < p.op.length)) = true) := by show _ = _; simp [h1]
    rw [hr.out]
    go_enter Tryd.func11, Tryd.ntmps11
    go_wp2
    go_ret
    exact ⟨rfl, al (rf w) _⟩
  · have i1 : ¬ (70000 : Int) < p.da.length := by omega
    by_cases h2 : 4000 < p.op.length
    · have i2 : (4000 : Int) < p.op.length := by omega
      have hr : Hid ((decide (70000 < p.da.length) || decide (4000 < p.op.length)) = true) := by show _ = _; simp [h2]
      rw [hr.out]
      have j2 : decide ((4000 : Int) < p.op.length) = true := by simp; omega
      go_enter Tryd.func11, Tryd.ntmps11
      go_wp2
      go_ret
      refine ⟨?_, al (rf w) _⟩
      first | rfl | (simp; omega)
    · have i2 : ¬ (4000 : Int) < p.op.length := by omega
      have hr : Hid ((decide (70000 < p.da.length) || decide (4000 < p.op.length)) = false) := by show _ = _; simp; omega
      rw [hr.out]
      have j2 : decide ((4000 : Int) < p.op.length) = false := by simp; omega
      go_enter Tryd.func11, Tryd.ntmps11
      go_wp2
      go_ret
      refine ⟨?_, al (rf w) _⟩
      first | rfl | (simp; omega)
def encL (p : Pk) : List UInt8 := if mayI p = 0 then encP p else []
def EncA (p : Pk) (w : World) (e : Ending) (w' : World) : Prop := ∃ A c, e = .returned (.tuple #[.slice A (encL p).length c, .int .i64 (mayI p)]) ∧ Bytes w' A (encL p) ∧ Below w.heap.size w w'
theorem EncR.any {p : Pk} {w w' : World} {e : Ending} (h : EncR p w e w') : EncA p w e w' := by
  rcases h with ⟨hm, v, rfl, own, b⟩ | ⟨hm, rfl, b⟩
  · obtain ⟨A, c, rfl⟩ := own_slice own
    refine ⟨A, c, ?_, ?_, b⟩
    · unfold encL; rw [if_pos hm, hm]
    · unfold encL; rw [if_pos hm]; exact Bytes.own own
  · refine ⟨none, 0, ?_, ?_, b⟩
    · unfold encL; rw [if_neg hm]; rfl
    · unfold encL; rw [if_neg hm]; exact Bytes.nil _ _
theorem encL_le {p : Pk} : (encL p).length ≤ 65535 := by
  unfold encL
  split
  · rename_i h; rw [encP_len]; exact (okP_of h).len
  · simp
theorem encA (w : World) (p : Pk) (o d : Value) (h : IsPk w p o d) : Calls Tryd.prog 13 #[.agg (p.cs o d).toArray] w (EncA p w) := (encC w p o d h).mono fun _ _ h => h.any
theorem rencA (w : World) (p : Pk) (o d : Value) (h : IsPk w p o d) : Calls Tryd.prog 14 #[.agg (p.cs o d).toArray] w (EncA p w) := (rencC w p o d h).mono fun _ _ h => h.any
end Go.Proofs.YthjpdaflgphbbaaDoor
