/-
  Groups: the laws' arguments.
-/
import Derived.Test.YtjkmkafceeblpaaOpn
set_option linter.unusedVariables false
namespace Go.Proofs.Ytjkmkafceeblpaa
open Go.ChangeShapes Go.WideShapes Go.ChangeAt Go.RowKit
set_option maxRecDepth 100000

theorem wf_u32 {n : Int} (h : (Lit.int .u32 n).wf = true) : 0 ≤ n ∧ n ≤ 4294967295 := by
  constructor <;> (simp [Lit.wf, IntKind.min, IntKind.max, IntKind.signed, IntKind.bits] at h; omega)
theorem wf_i64 {n : Int} (h : (Lit.int .i64 n).wf = true) : -9223372036854775808 ≤ n ∧ n ≤ 9223372036854775807 := by
  constructor <;> (simp [Lit.wf, IntKind.min, IntKind.max, IntKind.signed, IntKind.bits] at h; omega)
theorem open_i64x {H : Type} {enc : TypeId × Value → H} {w : World} {base b0 : Nat} {r : Reach} {sp : Nat → Bool} {held : Bool} {v : Value} {d : DataW H} {p : List MemPlace}
    (hv : Value.okWide Try.prog w r b0 3 v) (h : DataW.Trod enc Try.prog w base sp held 3 v d p) : ∃ n, v = .int .i64 n ∧ -9223372036854775808 ≤ n ∧ n ≤ 9223372036854775807 := by
  obtain ⟨k, rfl⟩ := okWide_int Try.underlying3 hv
  obtain ⟨fuel, hf⟩ := h
  obtain ⟨n, h1, _, h2⟩ := DataW.trod_int Try.underlying3 hf
  simp [Value.cells] at h1
  subst h1
  exact ⟨_, rfl, wf_i64 h2⟩
theorem open_addrx {H : Type} {enc : TypeId × Value → H} {w : World} {base b0 : Nat} {r : Reach} {sp : Nat → Bool} {held : Bool} {v : Value} {d : DataW H} {p : List MemPlace}
    (hv : Value.okWide Try.prog w r b0 25 v) (h : DataW.Trod enc Try.prog w base sp held 25 v d p) : ∃ n, v = .int .u32 n ∧ 0 ≤ n ∧ n ≤ 4294967295 := by
  obtain ⟨k, rfl⟩ := okWide_int Try.underlying25 hv
  obtain ⟨fuel, hf⟩ := h
  obtain ⟨n, h1, _, h2⟩ := DataW.trod_int Try.underlying25 hf
  simp [Value.cells] at h1
  subst h1
  exact ⟨_, rfl, wf_u32 h2⟩
theorem open_igmp {H : Type} {enc : TypeId × Value → H} {w : World} {base b0 : Nat} {r : Reach} {sp : Nat → Bool} {held : Bool} {v : Value} {d : DataW H} {p : List MemPlace}
    (hv : Value.okWide Try.prog w r b0 27 v) (h : DataW.Trod enc Try.prog w base sp held 27 v d p) : ∃ ty mx gr, v = .agg #[.int .i64 ty, .int .i64 mx, .int .u32 gr] ∧ 0 ≤ gr ∧ gr ≤ 4294967295 := by
  obtain ⟨cs, rfl, hsz⟩ := okWide_struct Try.underlying27 hv
  obtain ⟨fuel, hf⟩ := h
  have hk := leaves_of (F := 4) (N := 3) (ks := [.int .i64, .int .i64, .int .u32]) hf (by kernel_rfl)
  have c3 : Try.prog.cellsOf 27 = 3 := by kernel_rfl
  rw [c3] at hsz
  simp only [Value.cells] at hk
  obtain ⟨l⟩ := cs
  match l, hsz with
  | [x0, x1, x2], _ =>
    obtain ⟨v0, e0, a0, h0, _⟩ := hk 0 _ rfl
    obtain rfl : x0 = v0 := by injection e0
    subst h0
    obtain ⟨v1, e1, a1, h1, _⟩ := hk 1 _ rfl
    obtain rfl : x1 = v1 := by injection e1
    subst h1
    obtain ⟨v2, e2, a2, h2, w2⟩ := hk 2 _ rfl
    obtain rfl : x2 = v2 := by injection e2
    subst h2
    exact ⟨a0, a1, a2, rfl, wf_u32 w2⟩
end Go.Proofs.Ytjkmkafceeblpaa
