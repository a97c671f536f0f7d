/-
  Names: which name stands at a place, in plain Lean; nothing here names the program.
-/
import Derived.Test.YtpfkmmmlocmakaaDoorW
import Derived.Lib.Join
set_option linter.unusedVariables false
set_option maxRecDepth 20000
namespace Go.Proofs.YtpfkmmmlocmakaaDoor
open Go.RowKit

def szL (l : List (List UInt8)) : Nat := (l.map (·.length + 1)).sum
theorem szL_app (l : List (List UInt8)) (x : List UInt8) : szL (l ++ [x]) = szL l + (x.length + 1) := by simp [szL]
def jn (l : List (List UInt8)) : List UInt8 := Lib.join l [46]
theorem joinTail_app (r : List (List UInt8)) (x : List UInt8) : Lib.joinTail [46] (r ++ [x]) = Lib.joinTail [46] r ++ (46 :: x) := by simp [Lib.joinTail]
theorem joinTail_len (r : List (List UInt8)) : (Lib.joinTail [46] r).length = szL r := by
  induction r with
  | nil => rfl
  | cons y r ih =>
    have h : Lib.joinTail [46] (y :: r) = (46 :: y) ++ Lib.joinTail [46] r := by simp [Lib.joinTail]
    have h2 : szL (y :: r) = y.length + 1 + szL r := by simp [szL]
    rw [h, List.length_append, ih, h2]; simp
theorem jn_nil : jn [] = [] := rfl
theorem jn_one (x : List UInt8) : jn [x] = x := Lib.join_one _ _
theorem jn_app (l : List (List UInt8)) (x : List UInt8) (h : l ≠ []) : jn (l ++ [x]) = jn l ++ (46 :: x) := by
  cases l with
  | nil => exact absurd rfl h
  | cons y r =>
    unfold jn
    rw [List.cons_append, Lib.join_cons, Lib.join_cons, joinTail_app, List.append_assoc]
theorem jn_len (l : List (List UInt8)) (h : l ≠ []) : (jn l).length + 1 = szL l := by
  cases l with
  | nil => exact absurd rfl h
  | cons y r =>
    unfold jn
    rw [Lib.join_cons, List.length_append, joinTail_len]
    have h2 : szL (y :: r) = y.length + 1 + szL r := by simp [szL]
    omega
theorem jn_le (l : List (List UInt8)) : (jn l).length ≤ szL l := by
  by_cases h : l = []
  · subst h; simp [jn_nil]
  · have := jn_len l h; omega

def unp (b : List UInt8) (i began : Nat) (behind : Int) (l : List (List UInt8)) : List (List UInt8) × Int × Int :=
  if h : i < b.length then
    if b[i].toNat = 0 then (l, if behind < 0 then (i : Int) + 1 else behind, 0)
    else if b[i].toNat ≤ 63 then
      if b.length < i + 1 + b[i].toNat then ([], 0, 2)
      else if 46 ∈ (b.drop (i + 1)).take b[i].toNat ∨ 254 < szL l + b[i].toNat + 1 then ([], 0, 9)
      else unp b (i + 1 + b[i].toNat) began behind (l ++ [(b.drop (i + 1)).take b[i].toNat])
    else if 192 ≤ b[i].toNat then
      if h2 : i + 1 < b.length then
        if (b[i].toNat - 192) * 256 + b[i + 1].toNat < began then unp b ((b[i].toNat - 192) * 256 + b[i + 1].toNat) ((b[i].toNat - 192) * 256 + b[i + 1].toNat) (if behind < 0 then (i : Int) + 2 else behind) l
        else ([], 0, 10)
      else ([], 0, 2)
    else ([], 0, 3)
  else ([], 0, 2)
termination_by began * (b.length + 1) + (b.length - i)
decreasing_by
  · omega
  · have := Nat.mul_le_mul_right (b.length + 1) (show (b[i].toNat - 192) * 256 + b[i + 1].toNat + 1 ≤ began by omega)
    rw [Nat.succ_mul] at this
    omega
section
variable (b : List UInt8) (i began : Nat) (behind : Int) (l : List (List UInt8))
theorem unp_past (h : b.length ≤ i) : unp b i began behind l = ([], 0, 2) := by rw [unp, dif_neg (by omega)]
variable (h : i < b.length)
include h
theorem unp_end (h0 : b[i].toNat = 0) : unp b i began behind l = (l, if behind < 0 then (i : Int) + 1 else behind, 0) := by rw [unp, dif_pos h, if_pos h0]
theorem unp_short (h0 : b[i].toNat ≠ 0) (h1 : b[i].toNat ≤ 63) (h2 : b.length < i + 1 + b[i].toNat) : unp b i began behind l = ([], 0, 2) := by rw [unp, dif_pos h, if_neg h0, if_pos h1, if_pos h2]
theorem unp_name (h0 : b[i].toNat ≠ 0) (h1 : b[i].toNat ≤ 63) (h2 : ¬ b.length < i + 1 + b[i].toNat) (h3 : 46 ∈ (b.drop (i + 1)).take b[i].toNat ∨ 254 < szL l + b[i].toNat + 1) : unp b i began behind l = ([], 0, 9) := by
  rw [unp, dif_pos h, if_neg h0, if_pos h1, if_neg h2, if_pos h3]
theorem unp_label (h0 : b[i].toNat ≠ 0) (h1 : b[i].toNat ≤ 63) (h2 : ¬ b.length < i + 1 + b[i].toNat) (h3 : ¬ (46 ∈ (b.drop (i + 1)).take b[i].toNat ∨ 254 < szL l + b[i].toNat + 1)) :
    unp b i began behind l = unp b (i + 1 + b[i].toNat) began behind (l ++ [(b.drop (i + 1)).take b[i].toNat]) := by
  rw [unp, dif_pos h, if_neg h0, if_pos h1, if_neg h2, if_neg h3]
theorem unp_form (h1 : 63 < b[i].toNat) (h2 : b[i].toNat < 192) : unp b i began behind l = ([], 0, 3) := by rw [unp, dif_pos h, if_neg (by omega), if_neg (by omega), if_neg (by omega)]
theorem unp_cut (h1 : 192 ≤ b[i].toNat) (h2 : b.length ≤ i + 1) : unp b i began behind l = ([], 0, 2) := by rw [unp, dif_pos h, if_neg (by omega), if_neg (by omega), if_pos h1, dif_neg (by omega)]
theorem unp_loop (h1 : 192 ≤ b[i].toNat) (h2 : i + 1 < b.length) (h3 : began ≤ (b[i].toNat - 192) * 256 + b[i + 1].toNat) : unp b i began behind l = ([], 0, 10) := by
  rw [unp, dif_pos h, if_neg (by omega), if_neg (by omega), if_pos h1, dif_pos h2, if_neg (by omega)]
theorem unp_lead (h1 : 192 ≤ b[i].toNat) (h2 : i + 1 < b.length) (h3 : (b[i].toNat - 192) * 256 + b[i + 1].toNat < began) :
    unp b i began behind l = unp b ((b[i].toNat - 192) * 256 + b[i + 1].toNat) ((b[i].toNat - 192) * 256 + b[i + 1].toNat) (if behind < 0 then (i : Int) + 2 else behind) l := by
  rw [unp, dif_pos h, if_neg (by omega), if_neg (by omega), if_pos h1, dif_pos h2, if_pos h3]
end
set_option maxRecDepth 10000 in
theorem unp_known : unp [1, 97, 0, 1, 98, 192, 0] 3 3 (-1) [] = ([[98], [97]], 7, 0) := by
  rw [unp_label _ _ _ _ _ (by decide) (by decide) (by decide) (by decide) (by decide)]
  show unp [1, 97, 0, 1, 98, 192, 0] 5 3 (-1) [[98]] = _
  rw [unp_lead _ _ _ _ _ (by decide) (by decide) (by decide) (by decide)]
  show unp [1, 97, 0, 1, 98, 192, 0] 0 0 7 [[98]] = _
  rw [unp_label _ _ _ _ _ (by decide) (by decide) (by decide) (by decide) (by decide)]
  show unp [1, 97, 0, 1, 98, 192, 0] 2 0 7 [[98], [97]] = _
  rw [unp_end _ _ _ _ _ (by decide) (by decide)]
  rfl
-- the error is one of these
theorem unp_err (b : List UInt8) (i began : Nat) (behind : Int) (l : List (List UInt8)) : 0 ≤ (unp b i began behind l).2.2 ∧ (unp b i began behind l).2.2 ≤ 10 := by
  fun_induction unp b i began behind l with
  | case1 => exact ⟨Int.le_refl 0, show (0 : Int) ≤ 10 by omega⟩
  | case2 => exact ⟨by decide, by decide⟩
  | case3 => exact ⟨by decide, by decide⟩
  | case4 => assumption
  | case5 => assumption
  | case6 => exact ⟨by decide, by decide⟩
  | case7 => exact ⟨by decide, by decide⟩
  | case8 => exact ⟨by decide, by decide⟩
  | case9 => exact ⟨by decide, by decide⟩
end Go.Proofs.YtpfkmmmlocmakaaDoor
