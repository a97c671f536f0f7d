/-
  Routes, plain: a table as a list; the laws' plain parts.
-/
import Derived.Test.YtmboadgmhafedaaRp1
set_option linter.unusedVariables false
namespace Go.Proofs.Ytmboadgmhafedaa
open Go.RowKit

def keyB (x r : R4) : Bool := x.x == r.x && x.y == r.y && x.u == r.u
theorem keyB_iff (x r : R4) : keyB x r = true ↔ keyP x r := by unfold keyB keyP; simp [and_assoc]
def okR (r : R4) : Bool := decide (0 ≤ r.y) && decide (r.y ≤ 32) && decide (0 ≤ r.u) && (r.x.toNat % 2 ^ (32 - r.y.toNat) == 0)
def InU (r : R4) : Prop := 0 ≤ r.x ∧ r.x < 4294967296
theorem okR_wf {r : R4} (h : okR r = true) (hx : InU r) : r.wf := by
  unfold okR at h
  simp only [Bool.and_eq_true, decide_eq_true_eq, beq_iff_eq] at h
  exact ⟨hx.1, hx.2, h.1.1.1, h.1.1.2, h.1.2, h.2⟩
def hasK (L : List R4) (r : R4) : Bool := L.any (fun x => keyB x r)
theorem hasK_iff (L : List R4) (r : R4) : hasK L r = true ↔ ∃ x ∈ L, keyP x r := by
  unfold hasK
  rw [List.any_eq_true]
  exact ⟨fun ⟨x, h, k⟩ => ⟨x, h, (keyB_iff _ _).1 k⟩, fun ⟨x, h, k⟩ => ⟨x, h, (keyB_iff _ _).2 k⟩⟩
theorem hasK_no {L : List R4} {r : R4} (h : hasK L r = false) : ∀ x ∈ L, ¬ keyP x r := fun x hx hk => by
  have := (hasK_iff L r).2 ⟨x, hx, hk⟩
  rw [h] at this
  cases this
def addL (L : List R4) (r : R4) : List R4 × Int := if okR r = true then (if hasK L r = true then (L, 8) else if 64 ≤ L.length then (L, 6) else (insL L r, 0)) else (L, 1)
def remL (L : List R4) (r : R4) : List R4 × Int := if hasK L r = true then (L.filter (fun x => !keyB x r), 0) else (L, 7)
structure TabOK (L : List R4) : Prop where
  ord : Ord L
  ok : ∀ x ∈ L, okR x = true ∧ InU x
  len : L.length ≤ 64
theorem TabOK.wf {L : List R4} (h : TabOK L) : ∀ x ∈ L, x.wf := fun x hx => okR_wf (h.ok x hx).1 (h.ok x hx).2
theorem TabOK.nil : TabOK [] := ⟨List.Pairwise.nil, fun x hx => by simp at hx, by simp⟩
theorem TabOK.add {L : List R4} (h : TabOK L) {r : R4} (hr : InU r) : TabOK (addL L r).1 := by
  unfold addL
  split
  · rename_i hok
    split
    · exact h
    · rename_i hk
      split
      · exact h
      · rename_i hl
        have hk' : hasK L r = false := by simpa using hk
        refine ⟨insL_ord h.ord (hasK_no hk'), fun x hx => ?_, ?_⟩
        · rcases List.mem_cons.1 ((insL_perm L r).mem_iff.1 hx) with rfl | hx
          · exact ⟨hok, hr⟩
          · exact h.ok x hx
        · rw [(insL_perm L r).length_eq, List.length_cons]
          omega
  · exact h
theorem TabOK.rem {L : List R4} (h : TabOK L) (r : R4) : TabOK (remL L r).1 := by
  unfold remL
  split
  · exact ⟨h.ord.filter _, fun x hx => h.ok x (List.mem_filter.1 hx).1, Nat.le_trans (List.length_filter_le _ _) h.len⟩
  · exact h
-- what stands at one place taken away is what has its key taken away
theorem rm_eq {L : List R4} (hL : Ord L) {p : Nat} {x r : R4} (hx : L[p]? = some x) (hk : keyP x r) : L.take p ++ L.drop (p + 1) = L.filter (fun x => !keyB x r) := by
  have hp := (List.getElem?_eq_some_iff.1 hx).1
  have e : L = L.take p ++ x :: L.drop (p + 1) := by
    have h1 : L.drop p = x :: L.drop (p + 1) := by
      rw [List.drop_eq_getElem_cons hp]
      rw [List.getElem?_eq_getElem hp] at hx
      injection hx with hx
      rw [hx]
    rw [← h1, List.take_append_drop]
  have hno : ∀ (j : Nat) (q : R4), L[j]? = some q → j ≠ p → keyB q r = false := fun j q hq hj => by
    cases hb : keyB q r with
    | false => rfl
    | true =>
      have h1 := (keyB_iff _ _).1 hb
      have h2 : keyP q x := ⟨h1.1.trans hk.1.symm, h1.2.1.trans hk.2.1.symm, h1.2.2.trans hk.2.2.symm⟩
      exact absurd (key_once hL hq hx h2) hj
  have h1 : (L.take p).filter (fun x => !keyB x r) = L.take p := by
    rw [List.filter_eq_self]
    intro q hq
    obtain ⟨j, hj⟩ := List.getElem?_of_mem hq
    rw [List.getElem?_take] at hj
    split at hj
    · rename_i hjp; rw [hno j q hj (by omega)]; rfl
    · cases hj
  have h2 : (L.drop (p + 1)).filter (fun x => !keyB x r) = L.drop (p + 1) := by
    rw [List.filter_eq_self]
    intro q hq
    obtain ⟨j, hj⟩ := List.getElem?_of_mem hq
    rw [List.getElem?_drop] at hj
    rw [hno (p + 1 + j) q hj (by omega)]
    rfl
  conv => rhs; rw [e]
  rw [List.filter_append, List.filter_cons_of_neg (by simp [(keyB_iff x r).2 hk]), h1, h2]
-- RouteForgets
theorem forget {L : List R4} (h : TabOK L) {r : R4} (ha : (addL L r).2 = 0) : (addL L r).1.length = L.length + 1 ∧ (remL (addL L r).1 r).2 = 0 ∧ (remL (addL L r).1 r).1 = L ∧ (remL L r).2 = 7 := by
  have h0 : addL L r = (insL L r, 0) ∧ hasK L r = false := by
    unfold addL at ha ⊢
    split at ha
    · rename_i hok
      rw [if_pos hok]
      split at ha
      · simp at ha
      · rename_i hk
        rw [if_neg hk]
        split at ha
        · simp at ha
        · rename_i hl
          rw [if_neg hl]
          exact ⟨rfl, by simpa using hk⟩
    · simp at ha
  rw [h0.1]
  have hno := hasK_no h0.2
  have hin : hasK (insL L r) r = true := (hasK_iff _ _).2 ⟨r, (insL_perm L r).mem_iff.2 List.mem_cons_self, rfl, rfl, rfl⟩
  refine ⟨by rw [(insL_perm L r).length_eq, List.length_cons], by unfold remL; rw [if_pos hin], ?_, by unfold remL; rw [h0.2]; rfl⟩
  unfold remL
  rw [if_pos hin]
  have hr : (insL L r)[(L.takeWhile (fun x => ahdB x r)).length]? = some r := at_mid _ _ _
  rw [← rm_eq (insL_ord h.ord hno) hr ⟨rfl, rfl, rfl⟩]
  exact ins_del h.ord hno hr ⟨rfl, rfl, rfl⟩
-- RouteOrder
theorem adds_perm : ∀ (l L : List R4), TabOK L → (∀ x ∈ l, InU x) → L.length + l.length ≤ 64 → (∀ x ∈ L, ∀ y ∈ l, ¬ keyP x y) → l.Pairwise (fun x y => ¬ keyP x y) → ((l.foldl (fun L r => (addL L r).1) L).Perm (L ++ l.filter okR) ∧ TabOK (l.foldl (fun L r => (addL L r).1) L))
  | [], L, h, _, _, _, _ => ⟨by simp, h⟩
  | r :: l, L, h, hu, hl, hk, hp => by
    have h1 := List.pairwise_cons.1 hp
    have hnk : hasK L r = false := by
      cases hb : hasK L r with
      | false => rfl
      | true => obtain ⟨x, hx, hxr⟩ := (hasK_iff L r).1 hb; exact absurd hxr (hk x hx r List.mem_cons_self)
    rw [List.length_cons] at hl
    rw [List.foldl_cons]
    cases hok : okR r with
    | false =>
      have e : (addL L r).1 = L := by unfold addL; rw [hok]; rfl
      rw [e, List.filter_cons_of_neg (by rw [hok]; simp)]
      exact adds_perm l L h (fun x hx => hu x (List.mem_cons_of_mem _ hx)) (by omega) (fun x hx y hy => hk x hx y (List.mem_cons_of_mem _ hy)) h1.2
    | true =>
      have e : (addL L r).1 = insL L r := by unfold addL; rw [hok, hnk, if_pos rfl, if_neg (by simp), if_neg (by omega)]
      have ht := h.add (r := r) (hu r List.mem_cons_self)
      rw [e] at ht
      rw [e, List.filter_cons_of_pos hok]
      have := adds_perm l (insL L r) ht (fun x hx => hu x (List.mem_cons_of_mem _ hx)) (by rw [(insL_perm L r).length_eq, List.length_cons]; omega) (fun x hx y hy => by
        rcases List.mem_cons.1 ((insL_perm L r).mem_iff.1 hx) with rfl | hx
        · exact h1.1 y hy
        · exact hk x hx y (List.mem_cons_of_mem _ hy)) h1.2
      refine ⟨this.1.trans ?_, this.2⟩
      have h2 := (insL_perm L r).append_right (l.filter okR)
      refine h2.trans ?_
      exact List.perm_middle.symm
end Go.Proofs.Ytmboadgmhafedaa
