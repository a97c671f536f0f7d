/-
  Routes, plain: a table's list parted by the paths of its nets.
-/
import Derived.Test.YtmboadgmhafedaaRp3
import Derived.Test.YtmboadgmhafedaaTr6
set_option linter.unusedVariables false
namespace Go.Proofs.Ytmboadgmhafedaa
open Go.RowKit

def pk (r : R4) : List Nat := pth r.x.toNat r.y.toNat
def atP (L : List R4) (p : List Nat) : List R4 := L.filter (fun r => decide (pk r = p))
theorem pth_hi (a c : Nat) (ha : a < 4294967296) (hc : c < 4294967296) : ∀ k, k ≤ 32 → (pth a k = pth c k ↔ a / 2 ^ (32 - k) = c / 2 ^ (32 - k))
  | 0, _ => by
    rw [show 32 - 0 = 32 by rfl, Nat.div_eq_of_lt (show a < 2 ^ 32 by simpa using ha), Nat.div_eq_of_lt (show c < 2 ^ 32 by simpa using hc)]
    simp [pth]
  | k + 1, hk => by
    have ih := pth_hi a c ha hc k (by omega)
    rw [pth_succ, pth_succ]
    obtain ⟨m, hm⟩ : ∃ m, 31 - k = m := ⟨_, rfl⟩
    have e1 : 32 - (k + 1) = m := by omega
    have e2 : 32 - k = m + 1 := by omega
    rw [e2, Nat.pow_succ, ← Nat.div_div_eq_div_mul, ← Nat.div_div_eq_div_mul] at ih
    rw [e1]
    unfold bt at *
    rw [hm]
    generalize a / 2 ^ m = x at ih ⊢
    generalize c / 2 ^ m = y at ih ⊢
    constructor
    · intro h
      have := app_inj h
      have := ih.1 this.1
      omega
    · intro h
      subst h
      rw [ih.2 rfl]
theorem pk_len (r : R4) : (pk r).length = r.y.toNat := pth_len _ _
theorem pk_net {r q : R4} (hr : r.wf) (hq : q.wf) (h : pk r = pk q) : r.x = q.x ∧ r.y = q.y := by
  have h1 : r.y.toNat = q.y.toNat := by rw [← pk_len, ← pk_len, h]
  have h2 : r.y = q.y := by have := hr.y0; have := hq.y0; omega
  refine ⟨?_, h2⟩
  unfold pk at h
  rw [← h1] at h
  have a1 := hr.x0
  have a2 := hr.x1
  have a3 := hq.x0
  have a4 := hq.x1
  have a5 := hr.y1
  have h3 := (pth_hi r.x.toNat q.x.toNat (by omega) (by omega) r.y.toNat (by omega)).1 h
  have e1 := hr.net
  have e2 := hq.net
  rw [← h1] at e2
  have d1 := Nat.div_add_mod r.x.toNat (2 ^ (32 - r.y.toNat))
  have d2 := Nat.div_add_mod q.x.toNat (2 ^ (32 - r.y.toNat))
  rw [e1, h3] at d1
  rw [e2] at d2
  omega
theorem pk_key {r q : R4} (h : keyP r q) : pk r = pk q := by unfold pk; rw [h.1, h.2.1]
theorem fit_pk {r : R4} (hr : r.wf) (a : Nat) (ha : a < 4294967296) : fitR r a = true ↔ pk r = pth a r.y.toNat := by
  have a1 := hr.x0
  have a2 := hr.x1
  have a5 := hr.y1
  unfold pk
  rw [pth_hi r.x.toNat a (by omega) ha r.y.toNat (by omega)]
  unfold fitR
  rw [decide_eq_true_eq]
  have d1 := Nat.div_add_mod r.x.toNat (2 ^ (32 - r.y.toNat))
  rw [hr.net, Nat.add_zero, Nat.mul_comm] at d1
  constructor
  · intro h
    rw [← h, Nat.mul_div_cancel _ (Nat.two_pow_pos _)]
  · intro h
    rw [← h]
    exact d1
theorem atP_mem {L : List R4} {p : List Nat} {r : R4} : r ∈ atP L p ↔ r ∈ L ∧ pk r = p := by unfold atP; rw [List.mem_filter, decide_eq_true_eq]
theorem atP_ord {L : List R4} (h : TabOK L) (p : List Nat) : Ord (atP L p) := h.ord.filter _
theorem atP_len {L : List R4} (h : TabOK L) (p : List Nat) : (atP L p).length ≤ 64 := Nat.le_trans (List.length_filter_le _ _) h.len
theorem atP_sort {L : List R4} (h : TabOK L) (p : List Nat) : SortL (atP L p) := by
  intro s t r q hs ht hst
  obtain ⟨q1, q2⟩ := List.getElem?_eq_some_iff.1 hs
  obtain ⟨q3, q4⟩ := List.getElem?_eq_some_iff.1 ht
  have ha := List.pairwise_iff_getElem.1 (atP_ord h p) s t q1 q3 hst
  rw [q2, q4] at ha
  have m1 := atP_mem.1 (List.mem_of_getElem? hs)
  have m2 := atP_mem.1 (List.mem_of_getElem? ht)
  have := pk_net (h.wf r m1.1) (h.wf q m2.1) (m1.2.trans m2.2.symm)
  unfold Ahd at ha
  show r.u < q.u
  omega
theorem hit_has {L : List R4} (h : TabOK L) {r : R4} (hr : r.wf) : hitL (atP L (pk r)) r.u = hasK L r := by
  rw [Bool.eq_iff_iff, hasK_iff]
  unfold hitL
  rw [List.any_eq_true]
  constructor
  · rintro ⟨x, hx, hu⟩
    have m1 := atP_mem.1 hx
    have := pk_net (h.wf x m1.1) hr m1.2
    exact ⟨x, m1.1, this.1, this.2, by simpa using hu⟩
  · rintro ⟨x, hx, hk⟩
    exact ⟨x, atP_mem.2 ⟨hx, pk_key hk⟩, by simpa using hk.2.2⟩
theorem tw_congr {α : Type} {p q : α → Bool} {l : List α} (h : ∀ x ∈ l, p x = q x) : l.takeWhile p = l.takeWhile q ∧ l.dropWhile p = l.dropWhile q := by
  induction l with
  | nil => exact ⟨rfl, rfl⟩
  | cons x l ih =>
    have h1 := h x List.mem_cons_self
    have h2 := ih (fun y hy => h y (List.mem_cons_of_mem _ hy))
    rw [List.takeWhile_cons, List.takeWhile_cons, List.dropWhile_cons, List.dropWhile_cons, h1, h2.1, h2.2]
    exact ⟨rfl, rfl⟩
theorem tw_take {α : Type} (p : α → Bool) (l : List α) : l.take (l.takeWhile p).length = l.takeWhile p ∧ l.drop (l.takeWhile p).length = l.dropWhile p := by
  have e := List.takeWhile_append_dropWhile (p := p) (l := l)
  generalize l.takeWhile p = a at e ⊢
  generalize l.dropWhile p = b at e ⊢
  subst e
  exact ⟨List.take_left, List.drop_left⟩
theorem pos_le (ws : List R4) (k : Int) : posL ws k ≤ ws.length := by
  unfold posL
  have e := congrArg List.length (List.takeWhile_append_dropWhile (p := fun r => decide (R4.u r < k)) (l := ws))
  rw [List.length_append] at e
  omega
theorem pos_ins {L : List R4} (h : TabOK L) {r : R4} (hr : r.wf) (hk : hasK L r = false) : (atP L (pk r)).take (posL (atP L (pk r)) r.u) ++ r :: (atP L (pk r)).drop (posL (atP L (pk r)) r.u) = atP (insL L r) (pk r) := by
  have hk' : ∀ x ∈ atP L (pk r), ¬ keyP x r := fun x hx => hasK_no hk x (atP_mem.1 hx).1
  have e : (atP L (pk r)).take (posL (atP L (pk r)) r.u) ++ r :: (atP L (pk r)).drop (posL (atP L (pk r)) r.u) = insL (atP L (pk r)) r := by
    unfold posL insL
    rw [(tw_take _ _).1, (tw_take _ _).2]
    have c := tw_congr (p := fun x => decide (R4.u x < r.u)) (q := fun x => ahdB x r) (l := atP L (pk r)) (fun x hx => by
      have m1 := atP_mem.1 hx
      have := pk_net (h.wf x m1.1) hr m1.2
      rw [Bool.eq_iff_iff, ahdB_iff, decide_eq_true_eq]
      unfold Ahd
      omega)
    rw [c.1, c.2]
  rw [e]
  refine ord_eq (insL_ord (atP_ord h _) hk') ((insL_ord h.ord (hasK_no hk)).filter _) ?_
  refine (insL_perm _ _).trans ?_
  have h2 := (insL_perm L r).filter (fun q => decide (pk q = pk r))
  rw [List.filter_cons_of_pos (by simp)] at h2
  exact h2.symm
theorem ins_other {L : List R4} {r : R4} {p : List Nat} (hp : p ≠ pk r) : atP (insL L r) p = atP L p := by
  unfold atP insL
  rw [List.filter_append, List.filter_cons_of_neg (by simp; exact fun e => hp e.symm), ← List.filter_append, List.takeWhile_append_dropWhile]
theorem pos_hit {L : List R4} (h : TabOK L) {r : R4} (hr : r.wf) (hk : hasK L r = true) : ∃ x, (atP L (pk r))[posL (atP L (pk r)) r.u]? = some x ∧ keyP x r := by
  obtain ⟨x, hx, hkx⟩ := (hasK_iff L r).1 hk
  obtain ⟨j, hj⟩ := List.getElem?_of_mem (atP_mem.2 ⟨hx, pk_key hkx⟩)
  have hs := atP_sort h (pk r)
  have e : posL (atP L (pk r)) r.u = j := posL_eq (Nat.le_of_lt (List.getElem?_eq_some_iff.1 hj).1) (fun t q ht htj => by have := hs t j q x ht hj htj; have := hkx.2.2; omega) (fun t q ht hjt => by
    by_cases htj : t = j
    · subst htj; rw [hj] at ht; injection ht with ht; subst ht; have := hkx.2.2; omega
    · have := hs j t x q hj ht (by omega); have := hkx.2.2; omega)
  exact ⟨x, by rw [e]; exact hj, hkx⟩
theorem pos_del {L : List R4} (h : TabOK L) {r : R4} (hr : r.wf) (hk : hasK L r = true) : (atP L (pk r)).take (posL (atP L (pk r)) r.u) ++ (atP L (pk r)).drop (posL (atP L (pk r)) r.u + 1) = atP (L.filter (fun x => !keyB x r)) (pk r) := by
  obtain ⟨x, hx, hkx⟩ := pos_hit h hr hk
  rw [rm_eq (atP_ord h _) hx hkx]
  unfold atP
  rw [List.filter_filter, List.filter_filter]
  congr 1
  funext q
  rw [Bool.and_comm]
theorem del_other {L : List R4} {r : R4} {p : List Nat} (hp : p ≠ pk r) : atP (L.filter (fun x => !keyB x r)) p = atP L p := by
  unfold atP
  rw [List.filter_filter]
  refine List.filter_congr fun q hq => ?_
  by_cases h1 : pk q = p
  · have h2 : keyB q r = false := by
      cases hb : keyB q r with
      | false => rfl
      | true => exact absurd (h1.symm.trans (pk_key ((keyB_iff _ _).1 hb))) hp
    simp [h1, h2]
  · simp [h1]
-- a table of the program
structure Tab (w : World) (B t : Nat) (L : List R4) (T : Tre) : Prop where
  tr : IsT w B t T L.length
  ok : TabOK L
  at_ : ∀ p, rsOf T p = atP L p
  hb : B ≤ w.heap.size
theorem Tab.nx {w w' : World} {B t : Nat} {L : List R4} {T : Tre} (h : Tab w B t L T) (k : Below w.heap.size w w') : Tab w' B t L T := ⟨h.tr.nx k, h.ok, h.at_, Nat.le_trans h.hb k.size⟩
theorem rsOf_up {T : Tre} {p : List Nat} {d : Nd} (q : List Nat) : rsOf (upT T p (some d)) q = if q = p then d.rs else rsOf T q := by
  by_cases h : q = p
  · subst h; rw [if_pos rfl, rsOf_some upT_at]
  · rw [if_neg h]; unfold rsOf; rw [upT_ne h]
theorem rsOf_cut {T : Tre} {p : List Nat} (h : rsOf T p = []) (q : List Nat) : rsOf (upT T p none) q = rsOf T q := by
  by_cases h1 : q = p
  · subst h1; rw [h, rsOf_none upT_at]
  · unfold rsOf; rw [upT_ne h1]
end Go.Proofs.Ytmboadgmhafedaa
