/-
  Routes: masks; what fits; which is ahead.
-/
import Derived.Test.YtmboadgmhafedaaSr7
import Derived.Laws.BitsAllLaws
set_option linter.unusedVariables false
namespace Go.Proofs.Ytmboadgmhafedaa
open Go.RowKit

def msk (k : Nat) : Nat := 4294967296 - 2 ^ k
theorem and_msk (a k : Nat) (ha : a < 4294967296) (hk : k ≤ 32) : a &&& msk k = a / 2 ^ k * 2 ^ k := by
  have e : msk k = (2 ^ (32 - k) - 1) <<< k := by
    unfold msk
    rw [Nat.shiftLeft_eq, Nat.sub_mul, ← Nat.pow_add, show 32 - k + k = 32 by omega, Nat.one_mul]
  have e2 : a / 2 ^ k * 2 ^ k = (a >>> k) <<< k := by rw [Nat.shiftLeft_eq, Nat.shiftRight_eq_div_pow]
  rw [e, e2]
  apply Nat.eq_of_testBit_eq
  intro i
  rw [Nat.testBit_and, Nat.testBit_shiftLeft, Nat.testBit_shiftLeft, Nat.testBit_two_pow_sub_one, Nat.testBit_shiftRight]
  by_cases h1 : k ≤ i
  · rw [show k + (i - k) = i by omega]
    by_cases h2 : i - k < 32 - k
    · simp [h1, h2]
    · have h3 : a.testBit i = false := Nat.testBit_lt_two_pow (Nat.lt_of_lt_of_le ha (by
        have : (2 : Nat) ^ 32 ≤ 2 ^ i := Nat.pow_le_pow_right (by decide) (by omega)
        simpa using this))
      simp [h3]
  · simp [h1]
theorem wraps_u32 (n : Int) (h₀ : 0 ≤ n) (h₁ : n < 2 ^ 32) : IntKind.u32.wrap n = n := by rw [IntKind.wrap_u32]; omega
theorem msk_lt (k : Nat) (h : 0 < 2 ^ k) : msk k < 2 ^ 32 := by unfold msk; omega
theorem bits_msk (a k : Nat) (ha : a < 4294967296) (hk : k ≤ 32) : bits .and .u32 a (msk k : Nat) = ((a / 2 ^ k * 2 ^ k : Nat) : Int) := by
  rw [(bits_nat .u32 32 (by decide) wraps_u32 a (msk k) (by simpa using ha) (msk_lt k (Nat.two_pow_pos k))).1, and_msk a k ha hk]
theorem bits_nmsk (a k : Nat) (ha : a < 4294967296) (hk : k ≤ 32) : bits .andNot .u32 a (msk k : Nat) = ((a % 2 ^ k : Nat) : Int) := by
  have hp : 2 ^ k ≤ 4294967296 := by have := Nat.pow_le_pow_right (show 0 < 2 by decide) hk; simpa using this
  have hpos := Nat.two_pow_pos k
  have hm : msk k < 4294967296 := by unfold msk; omega
  rw [u32_andNot a (msk k : Nat) (by omega) (by omega) (by omega) (by omega)]
  rw [Int.toNat_natCast, Int.toNat_natCast, show 4294967295 - msk k = 2 ^ k - 1 by unfold msk; omega, Nat.and_two_pow_sub_one_eq_mod]
theorem shl_msk (k : Nat) (hk : k ≤ 31) : IntKind.u32.wrap (4294967295 * (2 : Int) ^ k) = (msk k : Nat) := by
  have hp : 2 ^ k ≤ 2147483648 := by have := Nat.pow_le_pow_right (show 0 < 2 by decide) hk; simpa using this
  have hpos := Nat.two_pow_pos k
  have e : (2 : Int) ^ k = ((2 ^ k : Nat) : Int) := by simp
  unfold msk
  rw [IntKind.wrap_u32, e]
  omega
theorem maskC (b : Nat) (hb : b ≤ 32) (w : World) : Calls Try.prog 27 #[.int .i64 b] w fun e w' => e = .returned (.int .u32 (msk (32 - b) : Nat)) ∧ w' = w := by
  by_cases h0 : b = 0
  · subst h0
    go_enter Try.func27, Try.ntmps27
    go_wp2
    go_ret
    exact ⟨rfl, rfl⟩
  · have h1 : ((32 : Int) - b) = ((32 - b : Nat) : Int) := by omega
    have h2 : ((b : Int) == 0) = false := by simpa using h0
    have H : Hid ((4294967295 * (2 : Int) ^ (32 - b)) % 4294967296 = (msk (32 - b) : Nat)) := by have := shl_msk (32 - b) (by omega); rw [IntKind.wrap_u32] at this; exact this
    go_enter Try.func27, Try.ntmps27
    go_wp2
    go_ret
    exact ⟨by rw [← H.out]; rfl, rfl⟩
-- a route of the table: its numbers are in their bounds
structure R4.wf (r : R4) : Prop where
  x0 : 0 ≤ r.x
  x1 : r.x < 4294967296
  y0 : 0 ≤ r.y
  y1 : r.y ≤ 32
  u0 : 0 ≤ r.u
  net : r.x.toNat % 2 ^ (32 - r.y.toNat) = 0
theorem dec_eq (m n : Nat) : decide (m = n) = ((m : Int) == (n : Int)) := by
  by_cases h : m = n
  · subst h; simp
  · have : ¬ (m : Int) = n := by omega
    simp [h, this]
def fitR (r : R4) (a : Nat) : Bool := decide (a / 2 ^ (32 - r.y.toNat) * 2 ^ (32 - r.y.toNat) = r.x.toNat)
theorem fitsC (r : R4) (h : r.wf) (a : Nat) (ha : a < 4294967296) (w : World) : Calls Try.prog 12 #[.agg #[.int .u32 r.x, .int .i64 r.y, .int .u32 r.z, .int .i64 r.u], .int .u32 a] w fun e w' => e = .returned (.bool (fitR r a)) ∧ Below w.heap.size w w' := by
  obtain ⟨x, y, z, u⟩ := r
  obtain ⟨h1, h2, h3, h4, _, _⟩ := h
  simp only at h1 h2 h3 h4
  obtain ⟨b, rfl⟩ := Int.eq_ofNat_of_zero_le h3
  obtain ⟨n, rfl⟩ := Int.eq_ofNat_of_zero_le h1
  have hb : b ≤ 32 := by omega
  have MC := Lib.hid (fun W : World => maskC b hb W)
  have HB := Lib.hid (bits_msk a (32 - b) ha (by omega))
  have B0 := Lib.hid (al (rf w) (.cells #[.int .u32 n, .int .i64 b, .int .u32 z, .int .i64 u] 36))
  have HV : Hid (fitR ⟨n, b, z, u⟩ a = (((a / 2 ^ (32 - b) * 2 ^ (32 - b) : Nat) : Int) == (n : Int))) := by
    show _ = _
    unfold fitR
    simp only [Int.toNat_natCast]
    exact dec_eq _ _
  clear h1 h2 h3 h4 hb
  go_enter Try.func12, Try.ntmps12
  go_wp2
  go_quiet (exact Calls.quiet_of_same (MC.out _))
  go_wp2
  go_ret
  exact ⟨by rw [HV.out, ← HB.out]; rfl, dn B0.out _⟩
def ahdB (x y : R4) : Bool := if x.y = y.y then (if x.x = y.x then decide (x.u < y.u) else decide (x.x < y.x)) else decide (y.y < x.y)
theorem ahdB_iff (x y : R4) : ahdB x y = true ↔ Ahd x y := by
  unfold ahdB Ahd
  split
  · split
    · rename_i h1 h2; simp only [decide_eq_true_eq]; constructor
      · intro h; exact .inr ⟨h1, .inr ⟨h2, h⟩⟩
      · rintro (h | ⟨_, h | ⟨_, h⟩⟩) <;> omega
    · rename_i h1 h2; simp only [decide_eq_true_eq]; constructor
      · intro h; exact .inr ⟨h1, .inl h⟩
      · rintro (h | ⟨_, h | ⟨_, h⟩⟩) <;> omega
  · rename_i h1; simp only [decide_eq_true_eq]; constructor
    · intro h; exact .inl h
    · rintro (h | ⟨_, h | ⟨_, h⟩⟩) <;> omega
theorem aheadC (r q : R4) (w : World) : Calls Try.prog 29 #[.agg #[.int .u32 r.x, .int .i64 r.y, .int .u32 r.z, .int .i64 r.u], .agg #[.int .u32 q.x, .int .i64 q.y, .int .u32 q.z, .int .i64 q.u]] w fun e w' => e = .returned (.bool (ahdB r q)) ∧ Below w.heap.size w w' := by
  obtain ⟨x, y, z, u⟩ := r
  obtain ⟨x', y', z', u'⟩ := q
  have B0 := Lib.hid (al (al (rf w) (.cells #[.int .u32 x, .int .i64 y, .int .u32 z, .int .i64 u] 36)) (.cells #[.int .u32 x', .int .i64 y', .int .u32 z', .int .i64 u'] 36))
  by_cases h1 : y = y'
  · by_cases h2 : x = x'
    · have HV : Hid (ahdB ⟨x, y, z, u⟩ ⟨x', y', z', u'⟩ = decide (u < u')) := by show _ = _; unfold ahdB; rw [if_pos h1, if_pos h2]
      subst h1
      subst h2
      go_enter Try.func29, Try.ntmps29
      go_wp2
      go_ret
      exact ⟨by rw [HV.out]; rfl, B0.out⟩
    · have HV : Hid (ahdB ⟨x, y, z, u⟩ ⟨x', y', z', u'⟩ = decide (x < x')) := by show _ = _; unfold ahdB; rw [if_pos h1, if_neg h2]
      subst h1
      have e2 : (x != x') = true := by simpa using h2
      clear h2
      go_enter Try.func29, Try.ntmps29
      go_wp2
      go_ret
      exact ⟨by rw [HV.out]; rfl, B0.out⟩
  · have HV : Hid (ahdB ⟨x, y, z, u⟩ ⟨x', y', z', u'⟩ = decide (y' < y)) := by show _ = _; unfold ahdB; rw [if_neg h1]
    have e1 : (y != y') = true := by simpa using h1
    clear h1
    go_enter Try.func29, Try.ntmps29
    go_wp2
    go_ret
    exact ⟨by rw [HV.out]; rfl, B0.out⟩
end Go.Proofs.Ytmboadgmhafedaa
