/-
  Routes, plain: lists in the order of All; what is added, taken away, found.
-/
import Derived.Test.YtmboadgmhafedaaRr3
set_option linter.unusedVariables false
namespace Go.Proofs.Ytmboadgmhafedaa
open Go.RowKit

theorem Ahd.irrefl (x : R4) : ¬ Ahd x x := by unfold Ahd; omega
theorem Ahd.trans {x y z : R4} (h : Ahd x y) (k : Ahd y z) : Ahd x z := by unfold Ahd at *; omega
theorem Ahd.asymm {x y : R4} (h : Ahd x y) (k : Ahd y x) : False := Ahd.irrefl x (h.trans k)
theorem Ahd.key {x y : R4} (h : Ahd x y) : ¬ keyP x y := by unfold Ahd keyP at *; omega
theorem Ahd.total {x y : R4} (h : ¬ keyP x y) : Ahd x y ∨ Ahd y x := by unfold Ahd keyP at *; omega
theorem keyP.symm {x y : R4} (h : keyP x y) : keyP y x := ⟨h.1.symm, h.2.1.symm, h.2.2.symm⟩
theorem Ahd.congr {x y z : R4} (h : Ahd x y) (k : keyP y z) : Ahd x z := by unfold Ahd keyP at *; omega
theorem Ahd.congr' {x y z : R4} (h : Ahd x y) (k : keyP x z) : Ahd z y := by unfold Ahd keyP at *; omega
abbrev Ord (L : List R4) : Prop := L.Pairwise Ahd
theorem ord_eq : ∀ {L M : List R4}, Ord L → Ord M → L.Perm M → L = M
  | [], M, _, _, h => (List.nil_perm.1 h).symm
  | x :: L, [], _, _, h => by simpa using h.length_eq
  | x :: L, y :: M, hL, hM, h => by
    have h1 := List.pairwise_cons.1 hL
    have h2 := List.pairwise_cons.1 hM
    have hxy : x = y := by
      have a := h.mem_iff.1 (List.mem_cons_self (a := x) (l := L))
      have b := h.mem_iff.2 (List.mem_cons_self (a := y) (l := M))
      rcases List.mem_cons.1 a with a | a
      · exact a
      · rcases List.mem_cons.1 b with b | b
        · exact b.symm
        · exact (Ahd.asymm (h1.1 y b) (h2.1 x a)).elim
    subst hxy
    rw [ord_eq h1.2 h2.2 (List.Perm.cons_inv h)]
def insL (L : List R4) (r : R4) : List R4 := L.takeWhile (fun x => ahdB x r) ++ r :: L.dropWhile (fun x => ahdB x r)
theorem insL_perm (L : List R4) (r : R4) : (insL L r).Perm (r :: L) := by
  unfold insL
  have h := List.perm_middle (a := r) (l₁ := L.takeWhile (fun x => ahdB x r)) (l₂ := L.dropWhile (fun x => ahdB x r))
  rw [List.takeWhile_append_dropWhile] at h
  exact h
theorem take_ahd (L : List R4) (r : R4) : ∀ x ∈ L.takeWhile (fun x => ahdB x r), Ahd x r := by
  induction L with
  | nil => intro x hx; simp at hx
  | cons y L ih =>
    intro x hx
    rw [List.takeWhile_cons] at hx
    split at hx
    · rename_i hy
      rcases List.mem_cons.1 hx with rfl | hx
      · exact (ahdB_iff _ _).1 hy
      · exact ih x hx
    · simp at hx
theorem drop_ahd {L : List R4} (hL : Ord L) (r : R4) (hk : ∀ x ∈ L, ¬ keyP x r) : ∀ x ∈ L.dropWhile (fun x => ahdB x r), Ahd r x := by
  induction L with
  | nil => intro x hx; simp at hx
  | cons y L ih =>
    intro x hx
    have h1 := List.pairwise_cons.1 hL
    rw [List.dropWhile_cons] at hx
    split at hx
    · exact ih h1.2 (fun q hq => hk q (List.mem_cons_of_mem _ hq)) x hx
    · rename_i hy
      have hry : Ahd r y := by
        rcases Ahd.total (hk y List.mem_cons_self) with h | h
        · exact absurd ((ahdB_iff _ _).2 h) hy
        · exact h
      rcases List.mem_cons.1 hx with rfl | hx
      · exact hry
      · exact hry.trans (h1.1 x hx)
theorem insL_ord {L : List R4} (hL : Ord L) {r : R4} (hk : ∀ x ∈ L, ¬ keyP x r) : Ord (insL L r) := by
  unfold insL
  have h : Ord (L.takeWhile (fun x => ahdB x r) ++ L.dropWhile (fun x => ahdB x r)) := by rw [List.takeWhile_append_dropWhile]; exact hL
  obtain ⟨h1, h2, h3⟩ := List.pairwise_append.1 h
  refine List.pairwise_append.2 ⟨h1, List.pairwise_cons.2 ⟨drop_ahd hL r hk, h2⟩, fun x hx y hy => ?_⟩
  rcases List.mem_cons.1 hy with rfl | hy
  · exact take_ahd L y x hx
  · exact h3 x hx y hy
-- in such a list a key stands once
theorem key_once {L : List R4} (hL : Ord L) {i j : Nat} {x y : R4} (hx : L[i]? = some x) (hy : L[j]? = some y) (hk : keyP x y) : i = j := by
  obtain ⟨h1, h2⟩ := List.getElem?_eq_some_iff.1 hx
  obtain ⟨h3, h4⟩ := List.getElem?_eq_some_iff.1 hy
  rcases Nat.lt_trichotomy i j with h | h | h
  · have := List.pairwise_iff_getElem.1 hL i j h1 h3 h
    rw [h2, h4] at this
    exact (this.key hk).elim
  · exact h
  · have := List.pairwise_iff_getElem.1 hL j i h3 h1 h
    rw [h2, h4] at this
    exact (this.key hk.symm).elim
-- what is added and taken away again leaves all as it was
theorem ins_del {L : List R4} (hL : Ord L) {r x : R4} (hk : ∀ x ∈ L, ¬ keyP x r) {p : Nat} (hx : (insL L r)[p]? = some x) (hxr : keyP x r) : (insL L r).take p ++ (insL L r).drop (p + 1) = L := by
  have ho := insL_ord hL hk
  have hr : (insL L r)[(L.takeWhile (fun x => ahdB x r)).length]? = some r := at_mid _ _ _
  have hp := key_once ho hx hr hxr
  subst hp
  unfold insL
  rw [List.take_left, List.drop_append, show (L.takeWhile (fun x => ahdB x r)).length + 1 - (L.takeWhile (fun x => ahdB x r)).length = 1 by omega, List.drop_eq_nil_of_le (by omega), List.nil_append]
  exact List.takeWhile_append_dropWhile
theorem del_ord {L : List R4} (hL : Ord L) (p : Nat) : Ord (L.take p ++ L.drop (p + 1)) := by
  have h : Ord (L.take p ++ L.drop p) := by rw [List.take_append_drop]; exact hL
  obtain ⟨h1, h2, h3⟩ := List.pairwise_append.1 h
  have hs : ∀ y, y ∈ L.drop (p + 1) → y ∈ L.drop p := fun y hy => by
    rw [← List.drop_drop] at hy
    exact List.mem_of_mem_drop hy
  refine List.pairwise_append.2 ⟨h1, ?_, fun x hx y hy => h3 x hx y (hs y hy)⟩
  have : L.drop (p + 1) = (L.drop p).drop 1 := by rw [List.drop_drop]
  rw [this]
  exact h2.sublist (List.drop_sublist _ _)
end Go.Proofs.Ytmboadgmhafedaa
