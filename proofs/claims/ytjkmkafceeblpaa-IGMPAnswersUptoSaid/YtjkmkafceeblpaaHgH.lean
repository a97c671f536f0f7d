/-
  Groups, plain: asking each member one by one is hearG, where the keys rise.
-/
import Derived.Test.YtjkmkafceeblpaaHgS
set_option linter.unusedVariables false
namespace Go.Proofs.Ytjkmkafceeblpaa
open Go.RowKit

def stepH (ty mx ga now draw : Int) (G : List Gm) (i : Nat) : List Gm := match G[i]? with
  | some m => if ty = 17 ∧ (ga = 0 ∨ ga = m.a) then askG G i mx now draw else if ty = 22 ∧ ga = m.a ∧ m.due.isSome = true then G.set i (hushM m) else G
  | none => G
def stepsH (gs : List Gm) (k : Nat) (ty mx ga now draw : Int) : List Gm := (List.range k).foldl (stepH ty mx ga now draw) gs
theorem stepsH_succ (gs : List Gm) (k : Nat) (ty mx ga now draw : Int) : stepsH gs (k + 1) ty mx ga now draw = stepH ty mx ga now draw (stepsH gs k ty mx ga now draw) k := by
  unfold stepsH
  rw [List.range_succ, List.foldl_append]
  rfl
theorem stepsH_all (gs : List Gm) (k : Nat) (mx now draw : Int) : stepsH gs k 17 mx 0 now draw = askAll gs k mx now draw := by
  induction k with
  | zero => rfl
  | succ k ih =>
    rw [stepsH_succ, askAll_succ, ih]
    unfold stepH
    split
    · rw [if_pos ⟨rfl, .inl rfl⟩]
    · rename_i h
      unfold askG
      rw [h]
-- nobody fits
theorem stepsH_none {gs : List Gm} {k : Nat} {ty mx ga now draw : Int} (h : ∀ (i : Nat) (m : Gm), i < k → gs[i]? = some m → stepH ty mx ga now draw gs i = gs) : stepsH gs k ty mx ga now draw = gs := by
  induction k with
  | zero => rfl
  | succ k ih =>
    rw [stepsH_succ, ih fun i m hi hm => h i m (by omega) hm]
    cases hk : gs[k]? with
    | none => unfold stepH; rw [hk]
    | some m => exact h k m (by omega) hk
theorem stepH_skip {G : List Gm} {i : Nat} {ty mx ga now draw : Int} (h : ∀ m, G[i]? = some m → m.a ≠ ga) (hz : ty = 17 → ga ≠ 0) : stepH ty mx ga now draw G i = G := by
  unfold stepH
  split
  · rename_i m hm
    have hne := h m hm
    rw [if_neg (fun ⟨h1, h2⟩ => h2.elim (fun e => hz h1 e) (fun e => hne e.symm)), if_neg (fun ⟨_, h2, _⟩ => hne h2.symm)]
  · rfl
theorem stepH_other {G : List Gm} {p i : Nat} {ty mx ga now draw : Int} (h : i ≠ p) : (stepH ty mx ga now draw G p)[i]? = G[i]? := by
  unfold stepH
  split
  · split
    · unfold askG
      split
      · rw [List.getElem?_set, if_neg (fun e => h e.symm)]
      · rfl
    · split
      · rw [List.getElem?_set, if_neg (fun e => h e.symm)]
      · rfl
  · rfl
theorem stepsH_one {gs : List Gm} {p : Nat} {ty mx ga now draw : Int} (hoth : ∀ (i : Nat) (m : Gm), gs[i]? = some m → i ≠ p → m.a ≠ ga) (hz : ty = 17 → ga ≠ 0) (k : Nat) : stepsH gs k ty mx ga now draw = if p < k then stepH ty mx ga now draw gs p else gs := by
  induction k with
  | zero => rfl
  | succ k ih =>
    rw [stepsH_succ, ih]
    by_cases h1 : p < k
    · rw [if_pos h1, if_pos (by omega)]
      exact stepH_skip (fun m hm => hoth k m (by rw [← hm, stepH_other (by omega)]) (by omega)) hz
    · rw [if_neg h1]
      by_cases h2 : p = k
      · subst h2
        rw [if_pos (by omega)]
      · rw [if_neg (by omega)]
        exact stepH_skip (fun m hm => hoth k m hm (fun e => h2 e.symm)) hz
theorem stepsH_hear {gs : List Gm} (hs : SortG gs) (ty mx ga now draw : Int) : stepsH gs gs.length ty mx ga now draw = hearG gs ty mx ga now draw := by
  by_cases hq : ty = 17 ∧ ga = 0
  · obtain ⟨rfl, rfl⟩ := hq
    rw [stepsH_all]
    unfold hearG
    rw [if_neg (by decide), if_pos rfl, if_pos rfl]
  · have hz : ty = 17 → ga ≠ 0 := fun h1 h2 => hq ⟨h1, h2⟩
    have key : ∀ (i : Nat) (m : Gm), gs[i]? = some m → (keysG gs)[i]? = some m.a := fun i m hm => by unfold keysG; rw [List.getElem?_map, hm]; rfl
    have hoth : ∀ (i : Nat) (m : Gm), gs[i]? = some m → i ≠ posG gs ga → m.a ≠ ga := fun i m hm hi he => by
      have hk := key i m hm
      rcases Nat.lt_or_gt_of_ne hi with h | h
      · have := take_lt (keysG gs) ga i m.a hk h; omega
      · have hl := (List.getElem?_eq_some_iff.1 hm).1
        obtain ⟨q, hqm⟩ : ∃ q, gs[posG gs ga]? = some q := ⟨_, List.getElem?_eq_getElem (by omega)⟩
        have h1 := take_ge (a := ga) hs (posG gs ga) q.a (key _ q hqm) (Nat.le_refl _)
        have h2 := hs (posG gs ga) i q.a m.a (key _ q hqm) hk h
        omega
    have hhit : hitG gs ga = true → ∃ m, gs[posG gs ga]? = some m ∧ m.a = ga := fun h => by
      unfold hitG at h
      rw [List.any_eq_true] at h
      obtain ⟨x, hx, he⟩ := h
      obtain ⟨t, ht⟩ := List.getElem?_of_mem hx
      have hxa : x = ga := by simpa using he
      have hl := (List.getElem?_eq_some_iff.1 ht).1
      rw [keysG, List.length_map] at hl
      obtain ⟨m, hm⟩ : ∃ m, gs[t]? = some m := ⟨_, List.getElem?_eq_getElem hl⟩
      have hk := key t m hm
      rw [ht] at hk
      injection hk with hk
      by_cases htp : t = posG gs ga
      · exact ⟨m, by rw [← htp]; exact hm, by omega⟩
      · exact absurd (by omega : m.a = ga) (hoth t m hm htp)
    rw [stepsH_one hoth hz]
    unfold hearG
    cases hm : gs[posG gs ga]? with
    | none =>
      have hl : ¬ posG gs ga < gs.length := by rw [List.getElem?_eq_none_iff] at hm; omega
      have hf : ¬ hitG gs ga = true := fun h => by obtain ⟨m, h1, _⟩ := hhit h; rw [hm] at h1; cases h1
      rw [if_neg hl, if_neg hf]
      split
      · rfl
      · split
        · rename_i h17
          rw [if_neg (hz h17)]
        · rfl
    | some m =>
      rw [if_pos (List.getElem?_eq_some_iff.1 hm).1]
      by_cases ha : m.a = ga
      · have ht : hitG gs ga = true := by
          unfold hitG
          rw [List.any_eq_true]
          exact ⟨m.a, List.mem_of_getElem? (key _ m hm), by simpa using ha⟩
        unfold stepH
        rw [hm]
        simp only [ht, if_true]
        by_cases h22 : ty = 22
        · subst h22
          rw [if_neg (by omega), if_pos rfl]
          cases hd : m.due with
          | none => rw [if_neg (by simp)]
          | some y => rw [if_pos ⟨rfl, ha.symm, by simp⟩]
        · rw [if_neg h22]
          by_cases h17 : ty = 17
          · rw [if_pos ⟨h17, .inr ha.symm⟩, if_pos h17, if_neg (hz h17)]
          · rw [if_neg (fun h => h17 h.1), if_neg (fun h => h22 h.1), if_neg h17]
      · have hf : ¬ hitG gs ga = true := fun h => by obtain ⟨q, h1, h2⟩ := hhit h; rw [hm] at h1; injection h1 with h1; subst h1; exact ha h2
        rw [stepH_skip (fun q hq' => by rw [hm] at hq'; injection hq' with hq'; subst hq'; exact ha) hz]
        simp only [if_neg hf]
        split
        · rfl
        · split
          · rename_i h17
            rw [if_neg (hz h17)]
          · rfl
end Go.Proofs.Ytjkmkafceeblpaa
