/-
  Routes, plain: all routes of a tree, node by node; what an address goes by.
-/
import Derived.Test.YtmboadgmhafedaaRp4
set_option linter.unusedVariables false
namespace Go.Proofs.Ytmboadgmhafedaa
open Go.RowKit

def preL (T : Tre) : Nat → List Nat → List R4
  | 0, _ => []
  | f + 1, p => match T p with
    | none => []
    | some d => d.rs ++ (preL T f (p ++ [0]) ++ preL T f (p ++ [1]))
theorem preL_none {T : Tre} {p : List Nat} (h : T p = none) (f : Nat) : preL T f p = [] := by cases f with | zero => rfl | succ f => unfold preL; rw [h]
theorem preL_some {T : Tre} {p : List Nat} {d : Nd} (h : T p = some d) (f : Nat) : preL T (f + 1) p = d.rs ++ (preL T f (p ++ [0]) ++ preL T f (p ++ [1])) := by
  conv => lhs; unfold preL
  rw [h]
def sub (L : List R4) (p : List Nat) : List R4 := L.filter (fun r => p.isPrefixOf (pk r))
theorem sub_mem {L : List R4} {p : List Nat} {r : R4} : r ∈ sub L p ↔ r ∈ L ∧ p <+: pk r := by unfold sub; rw [List.mem_filter, List.isPrefixOf_iff_prefix]
theorem pth_bits (a k : Nat) : ∀ c ∈ pth a k, c < 2 := by
  intro c hc
  unfold pth at hc
  obtain ⟨i, _, rfl⟩ := List.mem_map.1 hc
  exact bt_lt a i
theorem pth_take (a : Nat) {m k : Nat} (h : m ≤ k) : (pth a k).take m = pth a m := by
  unfold pth
  rw [← List.map_take, List.take_range, Nat.min_eq_left h]
theorem pre_pth {a k : Nat} {p : List Nat} (h : p <+: pth a k) : p = pth a p.length ∧ p.length ≤ k := by
  have h1 : p.length ≤ k := by have := h.length_le; rw [pth_len] at this; exact this
  refine ⟨?_, h1⟩
  have := List.prefix_iff_eq_take.1 h
  rw [pth_take a h1] at this
  exact this
section
variable {w : World} {B t : Nat} {T : Tre} {L : List R4}
theorem IsT.up {n : Int} (h : IsT w B t T n) : ∀ (s p : List Nat), (T (p ++ s)).isSome = true → (T p).isSome = true := by
  intro s
  induction s with
  | nil => intro p hp; rwa [List.append_nil] at hp
  | cons c s ih =>
    intro p hp
    rw [show p ++ c :: s = (p ++ [c]) ++ s by simp] at hp
    exact h.pre p c (ih _ hp)
theorem Tab.some_of (h : Tab w B t L T) {r : R4} (hr : r ∈ L) : (T (pk r)).isSome = true := by
  cases hT : T (pk r) with
  | some d => rfl
  | none =>
    have h1 := h.at_ (pk r)
    rw [rsOf_none hT] at h1
    have h2 : r ∈ atP L (pk r) := atP_mem.2 ⟨hr, rfl⟩
    rw [← h1] at h2
    cases h2
theorem Tab.sub_none (h : Tab w B t L T) {p : List Nat} (hT : T p = none) : sub L p = [] := by
  rw [List.eq_nil_iff_forall_not_mem]
  intro r hr
  obtain ⟨h1, s, h2⟩ := sub_mem.1 hr
  have h3 := h.some_of h1
  rw [← h2] at h3
  have := h.tr.up s p h3
  rw [hT] at this
  cases this
theorem fpos {α : Type} {p : α → Bool} {x : α} {L : List α} (h : p x = true) : (x :: L).filter p = x :: L.filter p := List.filter_cons_of_pos h
theorem fneg {α : Type} {p : α → Bool} {x : α} {L : List α} (h : p x = false) : (x :: L).filter p = L.filter p := List.filter_cons_of_neg (by rw [h]; simp)
theorem perm3 {α : Type} (p q r s : α → Bool) : ∀ (L : List α), (∀ x ∈ L, (s x = true ∧ p x = true ∧ q x = false ∧ r x = false) ∨ (s x = true ∧ p x = false ∧ q x = true ∧ r x = false) ∨ (s x = true ∧ p x = false ∧ q x = false ∧ r x = true) ∨ (s x = false ∧ p x = false ∧ q x = false ∧ r x = false)) → (L.filter p ++ (L.filter q ++ L.filter r)).Perm (L.filter s)
  | [], _ => List.Perm.refl _
  | x :: L, h => by
    have ih := perm3 p q r s L (fun y hy => h y (List.mem_cons_of_mem _ hy))
    rcases h x List.mem_cons_self with ⟨h1, h2, h3, h4⟩ | ⟨h1, h2, h3, h4⟩ | ⟨h1, h2, h3, h4⟩ | ⟨h1, h2, h3, h4⟩
    · rw [fpos h1, fpos h2, fneg h3, fneg h4]
      exact List.Perm.cons x ih
    · rw [fpos h1, fneg h2, fpos h3, fneg h4]
      exact List.perm_middle.trans (List.Perm.cons x ih)
    · rw [fpos h1, fneg h2, fneg h3, fpos h4]
      rw [← List.append_assoc]
      refine List.perm_middle.trans (List.Perm.cons x ?_)
      rw [List.append_assoc]
      exact ih
    · rw [fneg h1, fneg h2, fneg h3, fneg h4]
      exact ih
theorem sub_parts (L : List R4) (p : List Nat) : (atP L p ++ (sub L (p ++ [0]) ++ sub L (p ++ [1]))).Perm (sub L p) := by
  refine perm3 _ _ _ _ L (fun r _ => ?_)
  have no : ∀ c, ¬ p <+: pk r → (p ++ [c]).isPrefixOf (pk r) = false := fun c hn => by
    cases hb : (p ++ [c]).isPrefixOf (pk r) with
    | false => rfl
    | true => exact absurd ((List.prefix_append p [c]).trans (List.isPrefixOf_iff_prefix.1 hb)) hn
  by_cases h1 : p <+: pk r
  · have e1 : p.isPrefixOf (pk r) = true := List.isPrefixOf_iff_prefix.2 h1
    obtain ⟨s, hs⟩ := h1
    cases s with
    | nil =>
      rw [List.append_nil] at hs
      have n2 : ∀ c, (p ++ [c]).isPrefixOf (pk r) = false := fun c => by
        cases hb : (p ++ [c]).isPrefixOf (pk r) with
        | false => rfl
        | true =>
          have := (List.isPrefixOf_iff_prefix.1 hb).length_le
          rw [← hs] at this
          simp at this
          omega
      exact .inl ⟨e1, by simp [hs], n2 0, n2 1⟩
    | cons c s =>
      have hc : c < 2 := pth_bits r.x.toNat r.y.toNat c (by show c ∈ pk r; rw [← hs]; simp)
      have ne : pk r ≠ p := fun e => by rw [← hs] at e; simp at e
      have y : (p ++ [c]).isPrefixOf (pk r) = true := List.isPrefixOf_iff_prefix.2 ⟨s, by rw [← hs]; simp⟩
      have n : ∀ e, e ≠ c → (p ++ [e]).isPrefixOf (pk r) = false := fun e he => by
        cases hb : (p ++ [e]).isPrefixOf (pk r) with
        | false => rfl
        | true =>
          obtain ⟨s2, h2⟩ := List.isPrefixOf_iff_prefix.1 hb
          rw [← hs, List.append_assoc] at h2
          have := List.append_cancel_left h2
          simp only [List.cons_append, List.nil_append, List.cons.injEq] at this
          exact absurd this.1 he
      match c, hc with
      | 0, _ => exact .inr (.inl ⟨e1, by simp [ne], y, n 1 (by decide)⟩)
      | 1, _ => exact .inr (.inr (.inl ⟨e1, by simp [ne], n 0 (by decide), y⟩))
  · have e1 : p.isPrefixOf (pk r) = false := by
      cases hb : p.isPrefixOf (pk r) with
      | false => rfl
      | true => exact absurd (List.isPrefixOf_iff_prefix.1 hb) h1
    have ne : pk r ≠ p := fun e => h1 (e ▸ List.prefix_refl _)
    exact .inr (.inr (.inr ⟨e1, by simp [ne], no 0 h1, no 1 h1⟩))
theorem pre_perm (h : Tab w B t L T) : ∀ (f : Nat) (p : List Nat), p.length + f = 33 → (preL T f p).Perm (sub L p)
  | 0, p, hp => by
    have : sub L p = [] := h.sub_none (by
      cases hT : T p with
      | none => rfl
      | some d => have := (h.tr.bits p d hT).1; omega)
    rw [this]
    exact List.Perm.refl _
  | f + 1, p, hp => by
    cases hT : T p with
    | none => rw [preL_none hT, h.sub_none hT]
    | some d =>
      rw [preL_some hT]
      have e : d.rs = atP L p := by rw [← h.at_, rsOf_some hT]
      rw [e]
      exact (List.Perm.append_left _ (List.Perm.append (pre_perm h f _ (by simp; omega)) (pre_perm h f _ (by simp; omega)))).trans (sub_parts L p)
theorem net_lt {x y : R4} (hx : x.wf) (hy : y.wf) {p : List Nat} (h0 : p ++ [0] <+: pk x) (h1 : p ++ [1] <+: pk y) : x.x < y.x := by
  obtain ⟨e0, l0⟩ := pre_pth h0
  obtain ⟨e1, l1⟩ := pre_pth h1
  have a1 := hx.x0
  have a2 := hx.x1
  have a3 := hy.x0
  have a4 := hy.x1
  have a5 := hx.y1
  simp only [List.length_append, List.length_cons, List.length_nil, Nat.zero_add] at e0 e1 l0 l1
  rw [pth_succ] at e0 e1
  have b0 := app_inj e0
  have b1 := app_inj e1
  have hk := (pth_hi x.x.toNat y.x.toNat (by omega) (by omega) p.length (by omega)).1 (b0.1.symm.trans b1.1)
  obtain ⟨m, hm⟩ : ∃ m, 31 - p.length = m := ⟨_, rfl⟩
  have c0 := b0.2
  have c1 := b1.2
  unfold bt at c0 c1
  rw [hm] at c0 c1
  rw [show 32 - p.length = m + 1 by omega, Nat.pow_succ, ← Nat.div_div_eq_div_mul, ← Nat.div_div_eq_div_mul] at hk
  have hlt : x.x.toNat / 2 ^ m < y.x.toNat / 2 ^ m := by omega
  have : x.x.toNat < y.x.toNat := by
    refine Nat.lt_of_not_le fun hle => ?_
    have := Nat.div_le_div_right (c := 2 ^ m) hle
    omega
  omega
theorem pre_good (h : Tab w B t L T) : ∀ (f : Nat) (p : List Nat), p.length + f = 33 → Good (preL T f p)
  | 0, p, hp => List.Pairwise.nil
  | f + 1, p, hp => by
    cases hT : T p with
    | none => rw [preL_none hT]; exact List.Pairwise.nil
    | some d =>
      rw [preL_some hT]
      have e : d.rs = atP L p := by rw [← h.at_, rsOf_some hT]
      rw [e]
      have m0 : ∀ x ∈ preL T f (p ++ [0]), x ∈ L ∧ p ++ [0] <+: pk x := fun x hx => sub_mem.1 ((pre_perm h f _ (by simp; omega)).mem_iff.1 hx)
      have m1 : ∀ x ∈ preL T f (p ++ [1]), x ∈ L ∧ p ++ [1] <+: pk x := fun x hx => sub_mem.1 ((pre_perm h f _ (by simp; omega)).mem_iff.1 hx)
      have deep : ∀ c, ∀ x ∈ atP L p, ∀ y, y ∈ L → p ++ [c] <+: pk y → x.y < y.y := fun c x hx y hy hyp => by
        have h1 := hyp.length_le
        have h2 := (atP_mem.1 hx).2
        have h3 := congrArg List.length h2
        rw [pk_len] at h1 h3
        simp at h1
        omega
      unfold Good
      rw [List.pairwise_append, List.pairwise_append]
      refine ⟨(atP_ord h.ok p).imp (fun h => .inr h), ⟨pre_good h f _ (by simp; omega), pre_good h f _ (by simp; omega), fun x hx y hy => ?_⟩, fun x hx y hy => ?_⟩
      · have a := m0 x hx
        have b := m1 y hy
        have := net_lt (h.ok.wf x a.1) (h.ok.wf y b.1) a.2 b.2
        unfold Ahd
        omega
      · rcases List.mem_append.1 hy with hy | hy
        · exact .inl (deep 0 x hx y (m0 y hy).1 (m0 y hy).2)
        · exact .inl (deep 1 x hx y (m1 y hy).1 (m1 y hy).2)
theorem sub_nil (L : List R4) : sub L [] = L := by unfold sub; rw [List.filter_eq_self]; intro r _; rfl
theorem pre_all (h : Tab w B t L T) : (preL T 33 []).Perm L := by have := pre_perm h 33 [] rfl; rwa [sub_nil] at this
theorem all_eq (h : Tab w B t L T) {M : List R4} (hr : Re M (preL T 33 [])) (hs : Srt M) : M = L :=
  ord_eq (ahead_of hs (hr.2 (pre_good h 33 [] rfl))) h.ok.ord (hr.1.trans (pre_all h))
-- Find
def bestT (T : Tre) (a : Nat) : Nat → R4 × Int
  | 0 => (⟨0, 0, 0, 0⟩, 7)
  | k + 1 => match rsOf T (pth a k) with
    | [] => bestT T a k
    | r :: _ => (r, 0)
theorem bestT_nil {a k : Nat} (h : rsOf T (pth a k) = []) : bestT T a (k + 1) = bestT T a k := by
  conv => lhs; unfold bestT
  rw [h]
theorem bestT_cons {a k : Nat} {r : R4} {rs : List R4} (h : rsOf T (pth a k) = r :: rs) : bestT T a (k + 1) = (r, 0) := by
  conv => lhs; unfold bestT
  rw [h]
theorem bestT_none {n : Int} (h : IsT w B t T n) {a k : Nat} (hn : T (pth a k) = none) : ∀ j, bestT T a (k + j) = bestT T a k
  | 0 => rfl
  | j + 1 => by
    rw [← Nat.add_assoc, bestT_nil (rsOf_none (h.none_up hn (k + j) (by omega)))]
    exact bestT_none h hn j
theorem bestT_is (T : Tre) (a : Nat) : ∀ k, (bestT T a k = (⟨0, 0, 0, 0⟩, 7) ∧ ∀ j, j < k → rsOf T (pth a j) = []) ∨ ∃ (i : Nat) (r : R4) (rs : List R4), i < k ∧ rsOf T (pth a i) = r :: rs ∧ bestT T a k = (r, 0) ∧ ∀ j, i < j → j < k → rsOf T (pth a j) = []
  | 0 => .inl ⟨rfl, fun j hj => absurd hj (Nat.not_lt_zero _)⟩
  | k + 1 => by
    cases h : rsOf T (pth a k) with
    | nil =>
      rw [bestT_nil h]
      rcases bestT_is T a k with ⟨h1, h2⟩ | ⟨i, r, rs, h1, h2, h3, h4⟩
      · exact .inl ⟨h1, fun j hj => by
          by_cases hjk : j = k
          · subst hjk; exact h
          · exact h2 j (by omega)⟩
      · exact .inr ⟨i, r, rs, by omega, h2, h3, fun j h5 h6 => by
          by_cases hjk : j = k
          · subst hjk; exact h
          · exact h4 j h5 (by omega)⟩
    | cons r rs => exact .inr ⟨k, r, rs, by omega, h, bestT_cons h, fun j h5 h6 => by omega⟩
theorem best_find (h : Tab w B t L T) (a : Nat) (ha : a < 4294967296) : bestT T a 33 = findL L a := by
  have hfit : ∀ y ∈ L, fitR y a = true → y.y.toNat < 33 ∧ y ∈ rsOf T (pth a y.y.toNat) := fun y hy hf => by
    have hw := h.ok.wf y hy
    have := hw.y1
    exact ⟨by omega, by rw [h.at_]; exact atP_mem.2 ⟨hy, (fit_pk hw a ha).1 hf⟩⟩
  rcases bestT_is T a 33 with ⟨h1, h2⟩ | ⟨i, r, rs, h1, h2, h3, h4⟩
  · rw [h1]
    rcases find_best h.ok a with ⟨h5, _⟩ | ⟨x, h5, h6, h7, _⟩
    · exact h5.symm
    · have := hfit x h6 h7
      rw [h2 _ this.1] at this
      exact absurd this.2 (by simp)
  · rw [h3]
    have hr : r ∈ atP L (pth a i) := by rw [← h.at_, h2]; exact List.mem_cons_self
    have hm := atP_mem.1 hr
    have hwr := h.ok.wf r hm.1
    have hl : r.y.toNat = i := by have := congrArg List.length hm.2; rw [pk_len, pth_len] at this; exact this
    have hrf : fitR r a = true := (fit_pk hwr a ha).2 (by rw [hl]; exact hm.2)
    rcases find_best h.ok a with ⟨_, h5⟩ | ⟨x, h5, h6, h7, h8⟩
    · have := h5 r hm.1; rw [hrf] at this; cases this
    · rw [h5]
      have g1 := hfit x h6 h7
      have g2 := h8 r hm.1 hrf
      have hwx := h.ok.wf x h6
      have e1 : x.y.toNat = i := by
        have := hwx.y0
        have := hwr.y0
        by_cases hlt : i < x.y.toNat
        · have := h4 _ hlt g1.1
          rw [this] at g1
          exact absurd g1.2 (by simp)
        · omega
      have e2 : r.y = x.y := by have := hwx.y0; have := hwr.y0; omega
      have hx : x ∈ atP L (pth a i) := by rw [← h.at_, ← e1]; exact g1.2
      have e3 := pk_net hwr hwx (hm.2.trans (atP_mem.1 hx).2.symm)
      rw [← h.at_, h2] at hx
      rcases List.mem_cons.1 hx with e | hx
      · rw [e]
      · have ho := atP_ord h.ok (pth a i)
        rw [← h.at_, h2] at ho
        have := (List.pairwise_cons.1 ho).1 x hx
        have := g2.2 e2
        unfold Ahd at *
        omega
end
end Go.Proofs.Ytmboadgmhafedaa
