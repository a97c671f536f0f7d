/-
  Groups, plain: the keys stay in their order, whatever is done.
-/
import Derived.Test.YtjkmkafceeblpaaHg5
import Derived.Test.YtjkmkafceeblpaaHg6
set_option linter.unusedVariables false
namespace Go.Proofs.Ytjkmkafceeblpaa
open Go.RowKit

theorem sort_keys {gs gs2 : List Gm} (hs : SortG gs) (h : keysG gs2 = keysG gs) : SortG gs2 := by
  unfold SortG
  rw [h]
  exact hs
theorem keys_set {gs : List Gm} {i : Nat} {m m' : Gm} (hm : gs[i]? = some m) (h : m'.a = m.a) : keysG (gs.set i m') = keysG gs := by
  unfold keysG
  rw [List.map_set]
  exact set_same _ _ _ (by rw [List.getElem?_map, hm, h]; rfl)
theorem askM_a (m : Gm) (x : Int) : (askM m x).a = m.a := by
  unfold askM
  split
  · rfl
  · split <;> rfl
theorem keys_ask (gs : List Gm) (i : Nat) (mx now draw : Int) : keysG (askG gs i mx now draw) = keysG gs := by
  unfold askG
  split
  · rename_i m hm
    exact keys_set hm (askM_a _ _)
  · rfl
theorem keys_askAll (gs : List Gm) (k : Nat) (mx now draw : Int) : keysG (askAll gs k mx now draw) = keysG gs := by
  induction k with
  | zero => rfl
  | succ k ih => rw [askAll_succ, keys_ask, ih]
theorem keys_hear (gs : List Gm) (ty mx ga now draw : Int) : keysG (hearG gs ty mx ga now draw) = keysG gs := by
  unfold hearG
  split
  · split
    · rename_i m hm
      split
      · split
        · exact keys_set hm rfl
        · rfl
      · rfl
    · rfl
  · split
    · split
      · exact keys_askAll _ _ _ _ _
      · split
        · exact keys_ask _ _ _ _ _
        · rfl
    · rfl
theorem keys_tick (gs : List Gm) (now : Int) : keysG (gs.map (tickM now)) = keysG gs := by
  unfold keysG
  rw [List.map_map]
  apply List.map_congr_left
  intro m _
  show (tickM now m).a = m.a
  unfold tickM
  split <;> rfl
theorem sort_leave {gs : List Gm} (hs : SortG gs) (a : Int) : SortG (leaveG gs a).1 := by
  unfold leaveG
  split
  · unfold SortG keysG at *
    intro s t x y hx hy hst
    obtain ⟨p, hp⟩ : ∃ p, posG gs a = p := ⟨_, rfl⟩
    have hpl : p ≤ (gs.map Gm.a).length := by rw [← hp, List.length_map]; exact posG_le gs a
    rw [hp] at hx hy
    simp only [List.map_append, List.map_take, List.map_drop] at hx hy
    rw [del_at _ _ hpl] at hx hy
    split at hx <;> split at hy
    · exact hs s t x y hx hy hst
    · exact hs s (t + 1) x y hx hy (by omega)
    · omega
    · exact hs (s + 1) (t + 1) x y hx hy (by omega)
  · exact hs
theorem take_lt (l : List Int) (a : Int) (t : Nat) (x : Int) (h : l[t]? = some x) (ht : t < (l.takeWhile (fun x => decide (x < a))).length) : x < a := by
  induction l generalizing t with
  | nil => simp at h
  | cons y l ih =>
    rw [List.takeWhile_cons] at ht
    split at ht
    · rename_i hy
      cases t with
      | zero => simp only [List.getElem?_cons_zero, Option.some.injEq] at h; subst h; simpa using hy
      | succ t => rw [List.getElem?_cons_succ] at h; exact ih t h (by simpa using ht)
    · simp at ht
theorem take_ge {l : List Int} {a : Int} (hs : ∀ (s t : Nat) (x y : Int), l[s]? = some x → l[t]? = some y → s < t → x < y) (t : Nat) (x : Int) (h : l[t]? = some x) (ht : (l.takeWhile (fun x => decide (x < a))).length ≤ t) : a ≤ x := by
  induction l generalizing t with
  | nil => simp at h
  | cons y l ih =>
    rw [List.takeWhile_cons] at ht
    split at ht
    · rename_i hy
      cases t with
      | zero => simp at ht
      | succ t =>
        rw [List.getElem?_cons_succ] at h
        exact ih (fun s t x y hx hy hst => hs (s + 1) (t + 1) x y (by rw [List.getElem?_cons_succ]; exact hx) (by rw [List.getElem?_cons_succ]; exact hy) (by omega)) t h (by simpa using ht)
    · rename_i hy
      have hya : a ≤ y := by simpa using hy
      cases t with
      | zero => simp only [List.getElem?_cons_zero, Option.some.injEq] at h; subst h; exact hya
      | succ t => have := hs 0 (t + 1) y x rfl h (by omega); omega
theorem sort_join {gs : List Gm} (hs : SortG gs) (a now draw : Int) : SortG (joinG gs a now draw).1 := by
  unfold joinG
  split
  · exact hs
  · split
    · exact hs
    · split
      · exact hs
      · rename_i _ hhit _
        have hno : ∀ (t : Nat) (x : Int), (keysG gs)[t]? = some x → x ≠ a := fun t x hx e => hhit (by
          unfold hitG
          rw [List.any_eq_true]
          exact ⟨x, List.mem_of_getElem? hx, by simpa using e⟩)
        have hlt := fun t x h1 h2 => take_lt (keysG gs) a t x h1 h2
        have hge := fun t x h1 h2 => take_ge (a := a) hs t x h1 h2
        have hpl : posG gs a ≤ (keysG gs).length := by unfold keysG; rw [List.length_map]; exact posG_le gs a
        unfold SortG
        have hk : keysG (gs.take (posG gs a) ++ ⟨a, some (dueV now draw 10 (posG gs a)), true⟩ :: gs.drop (posG gs a)) = (keysG gs).take (posG gs a) ++ a :: (keysG gs).drop (posG gs a) := by
          unfold keysG
          rw [List.map_append, List.map_cons, List.map_take, List.map_drop]
        show ∀ (s t : Nat) (x y : Int), (keysG _)[s]? = some x → _
        rw [hk]
        intro s t x y hx hy hst
        rw [ins_at _ _ _ hpl] at hx hy
        have hge' : ∀ (t : Nat) (x : Int), (keysG gs)[t]? = some x → posG gs a ≤ t → a < x := fun t x h1 h2 => by
          have h3 := hge t x h1 h2
          have h4 := hno t x h1
          omega
        split at hx
        · split at hy
          · exact hs s t x y hx hy hst
          · split at hy
            · injection hy with hy; subst hy
              exact hlt s x hx (by assumption)
            · have h1 := hlt s x hx (by assumption)
              have h2 := hge' (t - 1) y hy (by omega)
              omega
        · split at hx
          · injection hx with hx; subst hx
            rw [if_neg (by omega), if_neg (by omega)] at hy
            exact hge' (t - 1) y hy (by omega)
          · rw [if_neg (by omega), if_neg (by omega)] at hy
            exact hs (s - 1) (t - 1) x y hx hy (by omega)
theorem len_join {gs : List Gm} (hn : gs.length ≤ 16) (a now draw : Int) : (joinG gs a now draw).1.length ≤ 16 := by
  unfold joinG
  split
  · exact hn
  · split
    · exact hn
    · split
      · exact hn
      · have hp := posG_le gs a
        show (gs.take (posG gs a) ++ _ :: gs.drop (posG gs a)).length ≤ 16
        rw [List.length_append, List.length_take, List.length_cons, List.length_drop]
        omega
end Go.Proofs.Ytjkmkafceeblpaa
