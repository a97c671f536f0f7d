/-
  Names: the reference's test of a record's numbers.
-/
import Derived.Test.YtlojbnnmlpfnbaaDoorNmHr
set_option linter.unusedVariables false
namespace Go.Proofs.YtlojbnnmlpfnbaaDoor
open Go.RowKit

-- q: the record is a question
def badR (t c u : Int) (q : Bool) : Bool := decide (t < 0) || decide (65535 < t) || decide (c < 0) || decide (65535 < c) || (!q && (decide (u < 0) || decide (2147483647 < u)))
def badI (t c u : Int) (q : Bool) : Int := if badR t c u q = true then 1 else 0
set_option maxHeartbeats 1600000 in
theorem nmBadR (w : World) (s : ByteArray) (t c u : Int) (D : Value) (q : Bool) :
    Calls Tryd.prog 31 #[.agg #[.string s, .int .i64 t, .int .i64 c, .int .i64 u, D], .bool q] w fun e w' => e = .returned (.int .i64 (badI t c u q)) ∧ Below w.heap.size w w' := by
  by_cases h1 : t < 0
  · skip
    have hb : badR t c u q = true := by unfold badR; simp; try omega
    have HB : Hid (badI t c u q = 1) := by show _ = _; unfold badI; rw [hb]; rfl
    clear hb
    go_enter Tryd.func31, Tryd.ntmps31
    go_wp2
    go_ret
    exact ⟨by rw [HB.out]; rfl, al (rf w) _⟩
  by_cases h2 : 65535 < t
  · skip
    have hb : badR t c u q = true := by unfold badR; simp; try omega
    have HB : Hid (badI t c u q = 1) := by show _ = _; unfold badI; rw [hb]; rfl
    clear hb
    go_enter Tryd.func31, Tryd.ntmps31
    go_wp2
    go_ret
    exact ⟨by rw [HB.out]; rfl, al (rf w) _⟩
  by_cases h3 : c < 0
  · skip
    have hb : badR t c u q = true := by unfold badR; simp; try omega
    have HB : Hid (badI t c u q = 1) := by show _ = _; unfold badI; rw [hb]; rfl
    clear hb
    go_enter Tryd.func31, Tryd.ntmps31
    go_wp2
    go_ret
    exact ⟨by rw [HB.out]; rfl, al (rf w) _⟩
  by_cases h4 : 65535 < c
  · skip
    have hb : badR t c u q = true := by unfold badR; simp; try omega
    have HB : Hid (badI t c u q = 1) := by show _ = _; unfold badI; rw [hb]; rfl
    clear hb
    go_enter Tryd.func31, Tryd.ntmps31
    go_wp2
    go_ret
    exact ⟨by rw [HB.out]; rfl, al (rf w) _⟩
  cases q with
  | true =>
    have hb : badR t c u true = false := by unfold badR; simp; try omega
    have HB : Hid (badI t c u true = 0) := by show _ = _; unfold badI; rw [hb]; rfl
    clear hb
    go_enter Tryd.func31, Tryd.ntmps31
    go_wp2
    go_ret
    exact ⟨by rw [HB.out]; rfl, al (rf w) _⟩
  | false =>
    by_cases h5 : u < 0
    · skip
      have hb : badR t c u false = true := by unfold badR; simp; try omega
      have HB : Hid (badI t c u false = 1) := by show _ = _; unfold badI; rw [hb]; rfl
      clear hb
      go_enter Tryd.func31, Tryd.ntmps31
      go_wp2
      go_ret
      exact ⟨by rw [HB.out]; rfl, al (rf w) _⟩
    by_cases h6 : 2147483647 < u
    · skip
      have hb : badR t c u false = true := by unfold badR; simp; try omega
      have HB : Hid (badI t c u false = 1) := by show _ = _; unfold badI; rw [hb]; rfl
      clear hb
      go_enter Tryd.func31, Tryd.ntmps31
      go_wp2
      go_ret
      exact ⟨by rw [HB.out]; rfl, al (rf w) _⟩
    have hb : badR t c u false = false := by unfold badR; simp; try omega
    have HB : Hid (badI t c u false = 0) := by show _ = _; unfold badI; rw [hb]; rfl
    clear hb
    go_enter Tryd.func31, Tryd.ntmps31
    go_wp2
    go_ret
    exact ⟨by rw [HB.out]; rfl, al (rf w) _⟩
end Go.Proofs.YtlojbnnmlpfnbaaDoor
