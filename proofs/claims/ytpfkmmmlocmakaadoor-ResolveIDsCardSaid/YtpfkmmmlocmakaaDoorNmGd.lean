/-
  Names: the program's test of a number.
-/
import Derived.Test.YtpfkmmmlocmakaaDoorNmBr
set_option linter.unusedVariables false
namespace Go.Proofs.YtpfkmmmlocmakaaDoor
open Go.RowKit

def goodV (v : Int) : Bool := decide (0 ≤ v) && decide (v ≤ 65535)
theorem goodC (w : World) (v : Int) : Calls Tryd.prog 56 #[.int .i64 v] w fun e w' => e = .returned (.bool (goodV v)) ∧ w' = w := by
  by_cases h1 : 0 ≤ v
  · by_cases h2 : v ≤ 65535
    · have hb : goodV v = true := by unfold goodV; simp; omega
      have HB := Lib.hid hb
      clear hb
      go_enter Tryd.func56, Tryd.ntmps56
      go_wp2
      go_ret
      exact ⟨by rw [HB.out]; rfl, rfl⟩
    · have hb : goodV v = false := by unfold goodV; simp; omega
      have HB := Lib.hid hb
      clear hb
      go_enter Tryd.func56, Tryd.ntmps56
      go_wp2
      go_ret
      exact ⟨by rw [HB.out]; rfl, rfl⟩
  · have hb : goodV v = false := by unfold goodV; simp; omega
    have HB := Lib.hid hb
    clear hb
    go_enter Tryd.func56, Tryd.ntmps56
    go_wp2
    go_ret
    exact ⟨by rw [HB.out]; rfl, rfl⟩
theorem badR_good (t c u : Int) (q : Bool) : badR t c u q = (!goodV t || !goodV c || (!q && (decide (u < 0) || decide (2147483647 < u)))) := by
  unfold badR goodV
  rw [Bool.eq_iff_iff]
  cases q
  · simp
    omega
  · simp
    omega
end Go.Proofs.YtpfkmmmlocmakaaDoor
