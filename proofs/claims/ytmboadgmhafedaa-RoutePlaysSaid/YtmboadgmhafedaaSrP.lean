/-
  slices.SortStableFunc at routes, plain: rearrangements that keep what is in order; swapped ranges.
-/
import Derived.Test.YtmboadgmhafedaaSr1
set_option linter.unusedVariables false
namespace Go.Proofs.Ytmboadgmhafedaa
open Go.RowKit

def Ahd (x y : R4) : Prop := y.y < x.y ∨ (x.y = y.y ∧ (x.x < y.x ∨ (x.x = y.x ∧ x.u < y.u)))
def Srt (L : List R4) : Prop := L.Pairwise fun x y => y.y ≤ x.y
def Good (L : List R4) : Prop := L.Pairwise fun x y => x.y < y.y ∨ Ahd x y
def Re (M L : List R4) : Prop := M.Perm L ∧ (Good L → Good M)
theorem Re.refl (L : List R4) : Re L L := ⟨List.Perm.refl _, id⟩
theorem Re.trans {A B C : List R4} (h : Re A B) (k : Re B C) : Re A C := ⟨h.1.trans k.1, fun g => h.2 (k.2 g)⟩
theorem Re.of_eq {A B : List R4} (h : A = B) : Re A B := h ▸ Re.refl _
theorem Re.len {A B : List R4} (h : Re A B) : A.length = B.length := h.1.length_eq
theorem Re.ctx {M N : List R4} (h : Re M N) (A Z : List R4) : Re (A ++ M ++ Z) (A ++ N ++ Z) := by
  refine ⟨(h.1.append_left A).append_right Z, fun g => ?_⟩
  unfold Good at *
  rw [List.pairwise_append, List.pairwise_append] at *
  obtain ⟨⟨g1, g2, g3⟩, g4, g5⟩ := g
  have hm : ∀ x, x ∈ M → x ∈ N := fun x hx => h.1.mem_iff.1 hx
  refine ⟨⟨g1, h.2 g2, fun a ha b hb => g3 a ha b (hm b hb)⟩, g4, fun a ha b hb => g5 a ?_ b hb⟩
  rcases List.mem_append.1 ha with ha | ha
  · exact List.mem_append.2 (.inl ha)
  · exact List.mem_append.2 (.inr (hm a ha))
theorem Re.left {M N : List R4} (h : Re M N) (Z : List R4) : Re (M ++ Z) (N ++ Z) := by simpa using h.ctx [] Z
theorem Re.right {M N : List R4} (h : Re M N) (A : List R4) : Re (A ++ M) (A ++ N) := by simpa using h.ctx A []
theorem Re.rot {U V : List R4} (h : ∀ u ∈ U, ∀ v ∈ V, u.y < v.y) : Re (V ++ U) (U ++ V) := by
  refine ⟨List.perm_append_comm, fun g => ?_⟩
  unfold Good at *
  rw [List.pairwise_append] at *
  exact ⟨g.2.1, g.1, fun v hv u hu => .inr (.inl (h u hu v hv))⟩
theorem ahead_of {L : List R4} (hs : Srt L) (hg : Good L) : L.Pairwise Ahd := by
  have := hs.and hg
  exact this.imp fun ⟨h1, h2⟩ => h2.elim (fun h => absurd h (by omega)) id
theorem Srt.app {A B : List R4} : Srt (A ++ B) ↔ Srt A ∧ Srt B ∧ ∀ a ∈ A, ∀ b ∈ B, b.y ≤ a.y := by unfold Srt; exact List.pairwise_append
theorem Srt.cons {a : R4} {B : List R4} : Srt (a :: B) ↔ (∀ b ∈ B, b.y ≤ a.y) ∧ Srt B := by unfold Srt; exact List.pairwise_cons
theorem Srt.nil : Srt [] := List.Pairwise.nil
theorem Srt.one (a : R4) : Srt [a] := List.pairwise_singleton _ _
-- one element goes in
theorem srt_ins {T1 T2 : List R4} {x : R4} (hs : Srt (T1 ++ T2)) (h2 : ∀ t ∈ T2, t.y < x.y) (h1 : ∀ t ∈ T1, x.y ≤ t.y) : Srt (T1 ++ x :: T2) := by
  obtain ⟨s1, s2, s3⟩ := Srt.app.1 hs
  refine Srt.app.2 ⟨s1, Srt.cons.2 ⟨fun b hb => by have := h2 b hb; omega, s2⟩, fun a ha b hb => ?_⟩
  rcases List.mem_cons.1 hb with rfl | hb
  · exact h1 a ha
  · exact s3 a ha b hb
theorem last_ge {T : List R4} {t x : R4} (hs : Srt (T ++ [t])) (h : x.y ≤ t.y) : ∀ q ∈ T ++ [t], x.y ≤ q.y := by
  obtain ⟨_, _, s3⟩ := Srt.app.1 hs
  intro q hq
  rcases List.mem_append.1 hq with hq | hq
  · have := s3 q hq t (by simp); omega
  · simp at hq; subst hq; exact h
-- neighbours swapped
theorem at_mid (P : List R4) (x : R4) (Q : List R4) : (P ++ x :: Q)[P.length]? = some x := by
  rw [List.getElem?_append_right (Nat.le_refl _), Nat.sub_self]; rfl
theorem at_mid1 (P : List R4) (t x : R4) (Q : List R4) : (P ++ t :: x :: Q)[P.length + 1]? = some x := by
  rw [List.getElem?_append_right (by omega), show P.length + 1 - P.length = 1 by omega]; rfl
theorem sw_adj (P : List R4) (t x : R4) (Q : List R4) : sw (P ++ t :: x :: Q) (P.length + 1) P.length = P ++ x :: t :: Q := by
  rw [sw_eq (at_mid1 P t x Q) (at_mid P t (x :: Q))]
  rw [List.set_append, if_neg (by omega), show P.length + 1 - P.length = 1 by omega]
  show (P ++ t :: t :: Q).set P.length x = _
  rw [List.set_append, if_neg (by omega), Nat.sub_self]
  rfl
theorem sw_adj' (P : List R4) (t x : R4) (Q : List R4) : sw (P ++ t :: x :: Q) P.length (P.length + 1) = P ++ x :: t :: Q := by
  rw [sw_eq (at_mid P t (x :: Q)) (at_mid1 P t x Q)]
  rw [List.set_append, if_neg (by omega), Nat.sub_self]
  show (P ++ x :: x :: Q).set (P.length + 1) t = _
  rw [List.set_append, if_neg (by omega), show P.length + 1 - P.length = 1 by omega]
  rfl
theorem swR_eq : ∀ (X Y P M Q : List R4), X.length = Y.length → swR (P ++ X ++ M ++ Y ++ Q) P.length (P.length + X.length + M.length) X.length = P ++ Y ++ M ++ X ++ Q
  | [], Y, P, M, Q, h => by
    have : Y = [] := List.eq_nil_of_length_eq_zero h.symm
    subst this
    show P ++ [] ++ M ++ [] ++ Q = _
    rfl
  | x :: X, [], P, M, Q, h => by simp at h
  | x :: X, y :: Y, P, M, Q, h => by
    show swR (sw (P ++ x :: X ++ M ++ y :: Y ++ Q) P.length (P.length + (X.length + 1) + M.length)) (P.length + 1) (P.length + (X.length + 1) + M.length + 1) X.length = _
    have e : sw (P ++ x :: X ++ M ++ y :: Y ++ Q) P.length (P.length + (X.length + 1) + M.length) = (P ++ [y]) ++ X ++ (M ++ [x]) ++ Y ++ Q := by
      have h1 : P ++ x :: X ++ M ++ y :: Y ++ Q = P ++ x :: (X ++ M ++ y :: Y ++ Q) := by simp
      have h2 : P ++ x :: X ++ M ++ y :: Y ++ Q = (P ++ x :: X ++ M) ++ y :: (Y ++ Q) := by simp
      have g1 : (P ++ x :: X ++ M ++ y :: Y ++ Q)[P.length]? = some x := by rw [h1]; exact at_mid _ _ _
      have hl : (P ++ x :: X ++ M).length = P.length + (X.length + 1) + M.length := by simp; omega
      have g2 : (P ++ x :: X ++ M ++ y :: Y ++ Q)[P.length + (X.length + 1) + M.length]? = some y := by rw [h2, ← hl]; exact at_mid _ _ _
      rw [sw_eq g1 g2]
      have s1 : (P ++ x :: X ++ M ++ y :: Y ++ Q).set P.length y = (P ++ y :: X ++ M) ++ y :: (Y ++ Q) := by
        rw [h1, List.set_append, if_neg (by omega), Nat.sub_self]
        simp
      rw [s1]
      have hl2 : (P ++ y :: X ++ M).length = P.length + (X.length + 1) + M.length := by simp; omega
      rw [← hl2, List.set_append, if_neg (by omega), Nat.sub_self]
      simp
    rw [e]
    have := swR_eq X Y (P ++ [y]) (M ++ [x]) Q (by simpa using h)
    simp only [List.length_append, List.length_cons, List.length_nil, Nat.zero_add] at this
    rw [show P.length + (X.length + 1) + M.length + 1 = P.length + 1 + X.length + (M.length + 1) by omega, this]
    simp
end Go.Proofs.Ytmboadgmhafedaa
