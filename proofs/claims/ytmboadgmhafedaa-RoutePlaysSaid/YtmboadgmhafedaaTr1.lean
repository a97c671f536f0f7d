/-
  Routes, the program: may.
-/
import Derived.Test.YtmboadgmhafedaaRp2
set_option linter.unusedVariables false
namespace Go.Proofs.Ytmboadgmhafedaa
open Go.RowKit

theorem shl_mod (n b : Nat) (hb : b ≤ 32) : (n * 2 ^ b) % 4294967296 = (n % 2 ^ (32 - b)) * 2 ^ b := by
  have e : 4294967296 = 2 ^ (32 - b) * 2 ^ b := by rw [← Nat.pow_add, show 32 - b + b = 32 by omega]
  conv => lhs; rw [e]
  rw [Nat.mul_mod_mul_right]
theorem wraps_u64 (n : Int) (h₀ : 0 ≤ n) (h₁ : n < 2 ^ 64) : IntKind.u64.wrap n = n := by
  have : IntKind.u64.wrap n = n % 18446744073709551616 := by simp [IntKind.wrap, IntKind.bits, IntKind.signed]
  rw [this]
  omega
theorem may_bits (n b : Nat) (hn : n < 4294967296) (hb : b ≤ 32) : bits .and .u64 ((n * 2 ^ b : Nat) : Int) 4294967295 = (((n % 2 ^ (32 - b)) * 2 ^ b : Nat) : Int) := by
  have hp : 2 ^ b ≤ 4294967296 := by have := Nat.pow_le_pow_right (show 0 < 2 by decide) hb; simpa using this
  have hlt : n * 2 ^ b < 2 ^ 64 := Nat.lt_of_le_of_lt (Nat.mul_le_mul (Nat.le_of_lt_succ (show n < 4294967295 + 1 from hn)) hp) (by decide)
  have h := bits_mask .u64 64 (by decide) wraps_u64 32 (by decide) ((n * 2 ^ b : Nat) : Int) (by omega) (by exact_mod_cast hlt)
  have e : ((2 : Int) ^ 32 - 1) = 4294967295 := by decide
  rw [e] at h
  rw [h, ← shl_mod n b hb]
  simp
theorem mayC (r : R4) (hr : InU r) (w : World) : Calls Try.prog 18 #[.agg #[.int .u32 r.x, .int .i64 r.y, .int .u32 r.z, .int .i64 r.u]] w fun e w' => e = .returned (.bool (okR r)) ∧ Below w.heap.size w w' := by
  obtain ⟨x, y, z, u⟩ := r
  have B0 := Lib.hid (al (rf w) (.cells #[.int .u32 x, .int .i64 y, .int .u32 z, .int .i64 u] 36))
  by_cases h1 : 0 ≤ y
  · by_cases h2 : y ≤ 32
    · by_cases h3 : 0 ≤ u
      · obtain ⟨n, rfl⟩ := Int.eq_ofNat_of_zero_le hr.1
        obtain ⟨b, rfl⟩ := Int.eq_ofNat_of_zero_le h1
        have hn : n < 4294967296 := by have := hr.2; simp only at this; omega
        have hb : b ≤ 32 := by omega
        have HM := Lib.hid (may_bits n b hn hb)
        have hp : 2 ^ b ≤ 4294967296 := by have := Nat.pow_le_pow_right (show 0 < 2 by decide) hb; simpa using this
        have hlt : n * 2 ^ b < 18446744073709551616 := Nat.lt_of_le_of_lt (Nat.mul_le_mul (Nat.le_of_lt_succ (show n < 4294967295 + 1 from hn)) hp) (by decide)
        have HV : Hid (okR ⟨n, b, z, u⟩ = (bits .and .u64 (IntKind.u64.wrap (IntKind.u64.wrap (n : Int) * 2 ^ b)) 4294967295 == 0)) := by
          show _ = _
          have e1 : IntKind.u64.wrap (n : Int) = n := wraps_u64 _ (by omega) (by omega)
          have e2 : (n : Int) * 2 ^ b = ((n * 2 ^ b : Nat) : Int) := by simp
          have e3 : IntKind.u64.wrap ((n * 2 ^ b : Nat) : Int) = ((n * 2 ^ b : Nat) : Int) := wraps_u64 _ (by omega) (by omega)
          rw [e1, e2, e3, HM.out]
          unfold okR
          simp only [h1, h2, h3, decide_true, Bool.true_and, Int.toNat_natCast]
          have hpos := Nat.two_pow_pos b
          generalize n % 2 ^ (32 - b) = m
          by_cases hm : m = 0
          · subst hm; simp
          · have h5 : ¬ ((m * 2 ^ b : Nat) : Int) = 0 := by
              have := Nat.mul_pos (Nat.pos_of_ne_zero hm) hpos
              omega
            rw [beq_eq_false_iff_ne.2 hm, beq_eq_false_iff_ne.2 h5]
        clear hr hn hb hp hlt
        go_enter Try.func18, Try.ntmps18
        go_wp2
        go_ret
        exact ⟨by rw [HV.out]; rfl, B0.out⟩
      · have e : okR ⟨x, y, z, u⟩ = false := by unfold okR; simp [h3]
        have E := Lib.hid e
        clear e hr
        go_enter Try.func18, Try.ntmps18
        go_wp2
        go_ret
        exact ⟨by rw [E.out]; rfl, B0.out⟩
    · have e : okR ⟨x, y, z, u⟩ = false := by unfold okR; simp [h2]
      have E := Lib.hid e
      clear e hr
      go_enter Try.func18, Try.ntmps18
      go_wp2
      go_ret
      exact ⟨by rw [E.out]; rfl, B0.out⟩
  · have e : okR ⟨x, y, z, u⟩ = false := by unfold okR; simp [h1]
    have E := Lib.hid e
    clear e hr
    go_enter Try.func18, Try.ntmps18
    go_wp2
    go_ret
    exact ⟨by rw [E.out]; rfl, B0.out⟩
end Go.Proofs.Ytmboadgmhafedaa
