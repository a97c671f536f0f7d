/-
  Groups, plain: how many are due, and when; a Query of all groups.
-/
import Derived.Test.YtjkmkafceeblpaaHgH
set_option linter.unusedVariables false
namespace Go.Proofs.Ytjkmkafceeblpaa
open Go.RowKit

def pend (gs : List Gm) : Nat := (gs.filter fun m => m.due.isSome).length
theorem pend_tick (gs : List Gm) (now : Int) : pend (gs.map (tickM now)) + (tickO gs gs.length now).length = pend gs := by
  have e : (tickO gs gs.length now).length = (gs.filter (firedM now)).length := by unfold tickO; rw [List.take_length, List.length_map]
  rw [e]
  clear e
  unfold pend
  induction gs with
  | nil => rfl
  | cons m gs ih =>
    rw [List.map_cons]
    cases hf : firedM now m with
    | true =>
      have h1 : (tickM now m).due.isSome = false := by unfold tickM; rw [hf, if_pos rfl]; rfl
      have h2 : m.due.isSome = true := by
        unfold firedM at hf
        cases hd : m.due with
        | none => rw [hd] at hf; cases hf
        | some x => rfl
      simp only [List.filter_cons, h1, h2, hf, if_true, Bool.false_eq_true, if_false, List.length_cons]
      omega
    | false =>
      have h1 : tickM now m = m := by unfold tickM; rw [hf]; rfl
      cases hd : m.due.isSome with
      | true => simp only [List.filter_cons, h1, hd, hf, if_true, Bool.false_eq_true, if_false, List.length_cons]; omega
      | false => simp only [List.filter_cons, h1, hd, hf, Bool.false_eq_true, if_false]; omega
def Due (gs : List Gm) (lo hi : Int) : Prop := ∀ m ∈ gs, ∀ x, m.due = some x → lo ≤ x ∧ x ≤ hi
theorem pend_none {gs : List Gm} {lo hi : Int} (h : Due gs lo hi) (hlt : hi < lo) : pend gs = 0 := by
  unfold pend
  rw [List.length_eq_zero_iff, List.filter_eq_nil_iff]
  intro m hm hd
  cases he : m.due with
  | none => rw [he] at hd; cases hd
  | some x => have := h m hm x he; omega
theorem due_tick {gs : List Gm} {lo hi now : Int} (h : Due gs lo hi) : Due (gs.map (tickM now)) (now + 1) hi := by
  intro m hm x hx
  obtain ⟨q, hq, rfl⟩ := List.mem_map.1 hm
  unfold tickM at hx
  split at hx
  · cases hx
  · rename_i hf
    have h1 := h q hq x hx
    unfold firedM at hf
    rw [hx] at hf
    have h2 : ¬ x ≤ now := by simpa using hf
    exact ⟨by omega, h1.2⟩
theorem dueV_in (now draw most : Int) (i : Nat) (h : 1 ≤ most) : now + 1 ≤ dueV now draw most i ∧ dueV now draw most i ≤ now + most := by
  unfold dueV
  have h1 := Int.emod_nonneg (max 0 draw % most + i) (show most ≠ 0 by omega)
  have h2 := Int.emod_lt_of_pos (max 0 draw % most + i) (show 0 < most by omega)
  omega
theorem join_cases (gs : List Gm) (a now draw : Int) : (∃ err, (err == 0) = false ∧ joinG gs a now draw = (gs, [], err)) ∨ ∃ gs', joinG gs a now draw = (gs', [(22, 0, a)], 0) ∧ gs'.length = gs.length + 1 ∧ ∀ lo hi, Due gs lo hi → lo ≤ now + 1 → now + 10 ≤ hi → Due gs' lo hi := by
  unfold joinG
  split
  · exact .inl ⟨1, by decide, rfl⟩
  · split
    · exact .inl ⟨8, by decide, rfl⟩
    · split
      · exact .inl ⟨6, by decide, rfl⟩
      · refine .inr ⟨_, rfl, ?_, ?_⟩
        · have hp := posG_le gs a
          rw [List.length_append, List.length_take, List.length_cons, List.length_drop]
          omega
        · intro lo hi h h1 h2 m hm x hx
          rcases List.mem_append.1 hm with hm | hm
          · exact h m (List.mem_of_mem_take hm) x hx
          · rcases List.mem_cons.1 hm with rfl | hm
            · injection hx with hx
              subst hx
              have := dueV_in now draw 10 (posG gs a) (by omega)
              omega
            · exact h m (List.mem_of_mem_drop hm) x hx
theorem ask_all {gs : List Gm} {mx now draw : Int} (h0 : 1 ≤ mx) (hn : ∀ m ∈ gs, m.due = none) (k : Nat) : ∀ (i : Nat) (m : Gm), (askAll gs k mx now draw)[i]? = some m → (i < k ∧ ∃ x, m.due = some x ∧ now + 1 ≤ x ∧ x ≤ now + mx) ∨ (k ≤ i ∧ m.due = none) := by
  induction k with
  | zero => intro i m h; exact .inr ⟨Nat.zero_le _, hn m (List.mem_of_getElem? h)⟩
  | succ k ih =>
    intro i m h
    rw [askAll_succ] at h
    unfold askG at h
    split at h
    · rename_i q hq
      rw [List.getElem?_set] at h
      split at h
      · rename_i hik
        subst hik
        rw [if_pos (List.getElem?_eq_some_iff.1 hq).1] at h
        injection h with h
        rcases ih k q hq with ⟨h1, _⟩ | ⟨_, h2⟩
        · omega
        · refine .inl ⟨by omega, dueV now draw (mostG mx) k, ?_, ?_⟩
          · rw [← h]; unfold askM; rw [h2]
          · have e : mostG mx = mx := by unfold mostG; rw [if_neg (by omega)]
            rw [e]
            exact dueV_in now draw mx k h0
      · rcases ih i m h with ⟨h1, h2⟩ | ⟨h1, h2⟩
        · exact .inl ⟨by omega, h2⟩
        · exact .inr ⟨by omega, h2⟩
    · rename_i hq
      have hlt := (List.getElem?_eq_some_iff.1 h).1
      have hle : (askAll gs k mx now draw).length ≤ k := List.getElem?_eq_none_iff.1 hq
      rcases ih i m h with ⟨h1, h2⟩ | ⟨h1, h2⟩
      · exact .inl ⟨by omega, h2⟩
      · exact .inr ⟨by omega, h2⟩
theorem ask_due {gs : List Gm} {mx now draw : Int} (h0 : 1 ≤ mx) (hn : ∀ m ∈ gs, m.due = none) : Due (askAll gs gs.length mx now draw) (now + 1) (now + mx) ∧ pend (askAll gs gs.length mx now draw) = gs.length := by
  have key := ask_all (draw := draw) (now := now) h0 hn gs.length
  have hall : ∀ m ∈ askAll gs gs.length mx now draw, ∃ x, m.due = some x ∧ now + 1 ≤ x ∧ x ≤ now + mx := fun m hm => by
    obtain ⟨i, hi⟩ := List.getElem?_of_mem hm
    rcases key i m hi with ⟨_, h⟩ | ⟨h1, _⟩
    · exact h
    · have := (List.getElem?_eq_some_iff.1 hi).1
      rw [askAll_len] at this
      omega
  constructor
  · intro m hm x hx
    obtain ⟨y, hy, h1, h2⟩ := hall m hm
    rw [hx] at hy
    injection hy with hy
    omega
  · unfold pend
    rw [List.filter_eq_self.2, askAll_len]
    intro m hm
    obtain ⟨y, hy, _⟩ := hall m hm
    rw [hy]
    rfl
theorem none_tick {gs : List Gm} {lo hi now : Int} (h : Due gs lo hi) (hlt : hi ≤ now) : ∀ m ∈ gs.map (tickM now), m.due = none := by
  intro m hm
  cases hd : m.due with
  | none => rfl
  | some x => have := due_tick (now := now) h m hm x hd; omega
end Go.Proofs.Ytjkmkafceeblpaa
