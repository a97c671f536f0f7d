/-
  Groups, in plain Lean: a message's bytes sum up to nothing, and read as it.
-/
import Derived.Test.YtjkmkafceeblpaaIgR
set_option linter.unusedVariables false
namespace Go.Proofs.Ytjkmkafceeblpaa
open Go.RowKit

theorem wst_ig (ty mx gr : Int) (s : Nat) (t0 : 0 ≤ ty) (t1 : ty ≤ 255) (m0 : 0 ≤ mx) (m1 : mx ≤ 255) (g0 : 0 ≤ gr) (g1 : gr ≤ 4294967295) (hs : s ≤ 65535) :
    wst (igB ty mx gr s) 8 = ty.toNat * 256 + mx.toNat + s + gr.toNat / 65536 + gr.toNat % 65536 := by
  simp [igB, beB, wst, List.getD_eq_getElem?_getD]
  omega
theorem ig_num (a b c s : Nat) (e0 : s = 65535 - oc (a + 0 + b + c)) : 65535 - oc (a + s + b + c) = 0 := by
  have ho := oc_le (a + 0 + b + c)
  unfold oc at *
  split at e0 <;> split <;> omega
theorem ig_sum (ty mx gr : Int) (t0 : 0 ≤ ty) (t1 : ty ≤ 255) (m0 : 0 ≤ mx) (m1 : mx ≤ 255) (g0 : 0 ≤ gr) (g1 : gr ≤ 4294967295) : sumB (igL ty mx gr) = 0 := by
  have hs := igS_le ty mx gr
  have h0 := wst_ig ty mx gr 0 t0 t1 m0 m1 g0 g1 (by omega)
  have h1 := wst_ig ty mx gr (igS ty mx gr) t0 t1 m0 m1 g0 g1 hs
  have e0 : igS ty mx gr = 65535 - oc (wst (igB ty mx gr 0) 8) := by unfold igS sumB; rw [igB_len]
  have e1 : sumB (igL ty mx gr) = 65535 - oc (wst (igB ty mx gr (igS ty mx gr)) 8) := by unfold igL sumB; rw [igB_len]
  rw [e1, h1]
  rw [h0] at e0
  exact ig_num _ _ _ _ e0
theorem ig_parts (ty mx gr : Int) (t0 : 0 ≤ ty) (t1 : ty ≤ 255) (m0 : 0 ≤ mx) (m1 : mx ≤ 255) (g0 : 0 ≤ gr) (g1 : gr ≤ 4294967295) :
    beN ((igL ty mx gr).take 1) = ty.toNat ∧ beN (((igL ty mx gr).drop 1).take 1) = mx.toNat ∧ beN (((igL ty mx gr).drop 4).take 4) = gr.toNat := by
  unfold igL
  generalize igS ty mx gr = s
  refine ⟨?_, ?_, ?_⟩
  · simp [igB, beB, beN]; omega
  · simp [igB, beB, beN]; omega
  · simp [igB, beB, beN]; omega
end Go.Proofs.Ytjkmkafceeblpaa
