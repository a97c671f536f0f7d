/-
  Routes: what is found is the best; the reference's Remove as a law of lists.
-/
import Derived.Test.YtmboadgmhafedaaRp2
import Derived.Test.YtmboadgmhafedaaRr4
set_option linter.unusedVariables false
namespace Go.Proofs.Ytmboadgmhafedaa
open Go.RowKit

theorem find_first {α : Type} {L : List α} {p : α → Bool} {x : α} (h : L.find? p = some x) : ∃ i : Nat, L[i]? = some x ∧ p x = true ∧ ∀ (j : Nat) (y : α), j < i → L[j]? = some y → p y = false := by
  induction L with
  | nil => simp at h
  | cons q L ih =>
    rw [List.find?_cons] at h
    cases hq : p q with
    | true =>
      rw [hq] at h
      injection h with h
      subst h
      exact ⟨0, rfl, hq, fun j y hj => absurd hj (Nat.not_lt_zero _)⟩
    | false =>
      rw [hq] at h
      obtain ⟨i, h1, h2, h3⟩ := ih h
      refine ⟨i + 1, by rw [List.getElem?_cons_succ]; exact h1, h2, fun j y hj hy => ?_⟩
      cases j with
      | zero => simp only [List.getElem?_cons_zero, Option.some.injEq] at hy; subst hy; exact hq
      | succ j => rw [List.getElem?_cons_succ] at hy; exact h3 j y (by omega) hy
-- RouteFinds
theorem find_best {L : List R4} (h : TabOK L) (a : Nat) : (findL L a = (⟨0, 0, 0, 0⟩, 7) ∧ ∀ y ∈ L, fitR y a = false) ∨ ∃ x, findL L a = (x, 0) ∧ x ∈ L ∧ fitR x a = true ∧ ∀ y ∈ L, fitR y a = true → y.y ≤ x.y ∧ (y.y = x.y → x.u ≤ y.u) := by
  unfold findL
  cases hf : L.find? (fun x => fitR x a) with
  | none =>
    refine .inl ⟨rfl, fun y hy => ?_⟩
    have := List.find?_eq_none.1 hf y hy
    simpa using this
  | some x =>
    obtain ⟨i, h1, h2, h3⟩ := find_first hf
    refine .inr ⟨x, rfl, List.mem_of_getElem? h1, h2, fun y hy hfy => ?_⟩
    obtain ⟨j, hj⟩ := List.getElem?_of_mem hy
    obtain ⟨q1, q2⟩ := List.getElem?_eq_some_iff.1 h1
    obtain ⟨q3, q4⟩ := List.getElem?_eq_some_iff.1 hj
    rcases Nat.lt_trichotomy j i with hji | hji | hji
    · have := h3 j y hji hj; rw [hfy] at this; cases this
    · subst hji; rw [h1] at hj; injection hj with hj; subst hj; exact ⟨Int.le_refl _, fun _ => Int.le_refl _⟩
    · have ha := List.pairwise_iff_getElem.1 h.ord i j q1 q3 hji
      rw [q2, q4] at ha
      have hx := h.wf x (List.mem_of_getElem? h1)
      have hy' := h.wf y hy
      unfold Ahd at ha
      refine ⟨by omega, fun he => ?_⟩
      have hn : x.x = y.x := by
        unfold fitR at h2 hfy
        rw [he] at hfy
        have e1 := of_decide_eq_true h2
        have e2 := of_decide_eq_true hfy
        have := e1.symm.trans e2
        have := hx.x0
        have := hy'.x0
        omega
      omega
theorem rremoveL (w : World) {B t : Nat} {L : List R4} {v : Value} (o : IsTr w B t L v) (h : TabOK L) (r : R4) (hB : B ≤ w.heap.size) :
    Calls Try.prog 16 #[.pointer (some ⟨t, 0, none⟩), .agg #[.int .u32 r.x, .int .i64 r.y, .int .u32 r.z, .int .i64 r.u]] w fun e w' => RrP w B t (remL L r).1 (remL L r).2 e w' := by
  refine (rremoveC w o (Nat.le_trans h.len (by decide)) r hB).mono ?_
  rintro e w' (⟨p, x, hx, hk, hp⟩ | ⟨hno, hp⟩)
  · have h1 : hasK L r = true := (hasK_iff L r).2 ⟨x, List.mem_of_getElem? hx, hk⟩
    unfold remL
    rw [if_pos h1]
    rw [rm_eq h.ord hx hk] at hp
    exact hp
  · have h1 : ¬ hasK L r = true := fun hh => by obtain ⟨x, hx, hk⟩ := (hasK_iff L r).1 hh; exact hno x hx hk
    unfold remL
    rw [if_neg h1]
    exact hp
end Go.Proofs.Ytmboadgmhafedaa
