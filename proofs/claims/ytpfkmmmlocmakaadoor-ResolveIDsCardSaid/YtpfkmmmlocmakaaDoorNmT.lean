/-
  Names, in plain Lean: a name behind another one, whose end leads to that one's tail.
-/
import Derived.Test.YtpfkmmmlocmakaaDoorNmPk
set_option linter.unusedVariables false
namespace Go.Proofs.YtpfkmmmlocmakaaDoor
open Go.RowKit

def goodL (ls : List (List UInt8)) : Prop := ∀ x ∈ ls, (46 : UInt8) ∉ x ∧ 1 ≤ x.length ∧ x.length ≤ 63
theorem unp_run : ∀ (ls acc : List (List UInt8)) (P Q : List UInt8) (bg : Nat) (bh : Int), goodL ls → szL acc + szL ls ≤ 254 →
    unp (P ++ pkl ls ++ Q) P.length bg bh acc = unp (P ++ pkl ls ++ Q) (P ++ pkl ls).length bg bh (acc ++ ls)
  | [], acc, P, Q, bg, bh, _, _ => by simp [pkl]
  | x :: r, acc, P, Q, bg, bh, hok, hsz => by
    obtain ⟨x46, x1, x63⟩ := hok x List.mem_cons_self
    have hs2 : szL (x :: r) = x.length + 1 + szL r := by simp [szL]
    have hp : pkl (x :: r) = (UInt8.ofNat x.length :: x) ++ pkl r := by simp [pkl]
    have e : P ++ pkl (x :: r) ++ Q = (P ++ (UInt8.ofNat x.length :: x)) ++ pkl r ++ Q := by rw [hp]; simp
    have hl : (P ++ pkl (x :: r) ++ Q).length = P.length + 1 + x.length + (pkl r).length + Q.length := by rw [hp]; simp; omega
    have hn : (UInt8.ofNat x.length).toNat = x.length := by rw [UInt8.toNat_ofNat']; omega
    have h0 : ((P ++ pkl (x :: r) ++ Q)[P.length]'(by omega)).toNat = x.length := by
      have : (P ++ pkl (x :: r) ++ Q)[P.length]'(by omega) = UInt8.ofNat x.length := by simp [hp]
      rw [this, hn]
    have hx : ((P ++ pkl (x :: r) ++ Q).drop (P.length + 1)).take ((P ++ pkl (x :: r) ++ Q)[P.length]'(by omega)).toNat = x := by
      rw [h0, hp]; simp
    rw [unp_label _ _ _ _ _ (by omega) (by omega) (by omega) (by omega) (by
      rw [hx, h0]; rintro (h | h)
      · exact x46 h
      · omega), hx, h0]
    have e2 : P.length + 1 + x.length = (P ++ (UInt8.ofNat x.length :: x)).length := by simp; omega
    have e3 : (P ++ pkl (x :: r)).length = ((P ++ (UInt8.ofNat x.length :: x)) ++ pkl r).length := by rw [hp, List.append_assoc]
    rw [e3, e, e2, unp_run r (acc ++ [x]) (P ++ (UInt8.ofNat x.length :: x)) Q bg bh (fun y hy => hok y (List.mem_cons_of_mem _ hy)) (by rw [szL_app]; omega)]
    simp
theorem jn_two : ∀ (A B : List (List UInt8)), A ≠ [] → B ≠ [] → jn (B ++ A) = jn B ++ 46 :: jn A
  | A, [], _, h => absurd rfl h
  | A, [x], hA, _ => by rw [List.singleton_append, jn_cons _ _ hA, jn_one]
  | A, x :: y :: r, hA, _ => by
    rw [List.cons_append, jn_cons _ _ (by simp), jn_two A (y :: r) hA (by simp), jn_cons x (y :: r) (by simp), List.append_assoc]
    rfl
-- the two names' bytes, one behind the other
theorem unp_parts (A B : List (List UInt8)) (hA : goodL A) (hB : goodL B) (hAne : A ≠ []) (hs : szL A + szL B ≤ 254) :
    unp (pk A ++ pkl B ++ [192, 0]) (pk A).length (pk A).length (-1) [] = (B ++ A, (((pk A ++ pkl B ++ [192, 0]).length : Nat) : Int), 0) := by
  have hla : 0 < (pk A).length := by simp [pk]
  rw [unp_run B [] (pk A) [192, 0] _ _ hB (by have : szL [] = 0 := rfl; omega)]
  have hl : (pk A ++ pkl B ++ [192, 0]).length = (pk A ++ pkl B).length + 2 := by simp; omega
  have g0 : ((pk A ++ pkl B ++ [192, 0])[(pk A ++ pkl B).length]'(by omega)).toNat = 192 := by
    have : (pk A ++ pkl B ++ [192, 0])[(pk A ++ pkl B).length]'(by omega) = 192 := by rw [List.getElem_append_right (by omega)]; simp
    rw [this]; rfl
  have g1 : ((pk A ++ pkl B ++ [192, 0])[(pk A ++ pkl B).length + 1]'(by omega)).toNat = 0 := by
    have : (pk A ++ pkl B ++ [192, 0])[(pk A ++ pkl B).length + 1]'(by omega) = 0 := by rw [List.getElem_append_right (by omega)]; simp
    rw [this]; rfl
  rw [unp_lead _ _ _ _ _ (by omega) (by omega) (by omega) (by rw [g0, g1]; omega)]
  rw [g0, g1, if_pos (by omega)]
  have e : pk A ++ pkl B ++ [192, 0] = [] ++ pkl A ++ ([0] ++ (pkl B ++ [192, 0])) := by unfold pk; simp
  have h2 := unp_run A ([] ++ B) [] ([0] ++ (pkl B ++ [192, 0])) 0 ((((pk A ++ pkl B).length : Nat) : Int) + 2) hA (by rw [List.nil_append]; omega)
  rw [← e] at h2
  rw [show (192 - 192) * 256 + 0 = ([] : List UInt8).length from rfl]
  rw [show (([] : List UInt8).length) = 0 from rfl] at h2 ⊢
  rw [h2]
  have h3 : ([] ++ pkl A).length < (pk A ++ pkl B ++ [192, 0]).length := by unfold pk; simp
  have h4 : ((pk A ++ pkl B ++ [192, 0])[([] ++ pkl A).length]'h3).toNat = 0 := by
    have : (pk A ++ pkl B ++ [192, 0])[([] ++ pkl A).length]'h3 = 0 := by
      simp only [e]
      rw [List.getElem_append_right (by omega)]; simp
    rw [this]; rfl
  rw [unp_end _ _ _ _ _ h3 h4, if_neg (by omega)]
  simp
  omega
end Go.Proofs.YtpfkmmmlocmakaaDoor
