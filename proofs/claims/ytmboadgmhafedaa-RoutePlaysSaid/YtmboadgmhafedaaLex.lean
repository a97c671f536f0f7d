/-
  A long region that draws its order: the check that its text's order serves, by summaries of the operations; regions whose callees lay new memory alone.
-/
import Derived.Test.YtmboadgmhafedaaW
import Derived.Deep.QuietTactic
import Derived.BigQuiet
set_option linter.unusedVariables false
namespace Go.Proofs.Ytmboadgmhafedaa
open Go.RowKit

section
variable {ops : Array Oper} {md : Region.Mode}
def waitL (md : Region.Mode) (o : Oper) : List Nat := (o.after.toList.filter fun e => Region.binds md e).map (·.on)
abbrev Sm := Option Nat × List Nat × List Nat
def summ (md : Region.Mode) (ops : Array Oper) (o : Oper) : Sm := (o.dst, o.looksAt ops, waitL md o)
def apartS (x y : Sm) : Bool :=
  (match x.1 with
   | some d => !y.2.1.contains d && y.1 != some d
   | none => true) &&
  (match y.1 with
   | some d => !x.2.1.contains d
   | none => true)
def okS : Nat → List Sm → Bool
  | _, [] => true
  | k, x :: rest => x.2.2.all (fun e => decide (e < k)) && rest.all (fun y => y.2.2.contains k || apartS x y) && okS (k + 1) rest
structure RowOk (md : Region.Mode) (ops : Array Oper) (k : Nat) (o : Oper) : Prop where
  before : ∀ e ∈ o.after, Region.binds md e = true → e.on < k
  free : ∀ (j : Nat) (oj : Oper), k < j → ops[j]? = some oj → (oj.after.any (fun e => Region.binds md e && e.on == k) || o.apart ops oj) = true
theorem mem_waitL {o : Oper} {x : Nat} : x ∈ waitL md o ↔ ∃ e ∈ o.after, Region.binds md e = true ∧ e.on = x := by
  unfold waitL
  simp only [List.mem_map, List.mem_filter, Array.mem_toList_iff]
  constructor
  · rintro ⟨e, ⟨h1, h2⟩, h3⟩; exact ⟨e, h1, h2, h3⟩
  · rintro ⟨e, h1, h2, h3⟩; exact ⟨e, ⟨h1, h2⟩, h3⟩
theorem rows_of : ∀ (l : List Oper) (k : Nat), okS k (l.map (summ md ops)) = true → (∀ j, l[j]? = ops[k + j]?) → ∀ (i : Nat) (o : Oper), k ≤ i → ops[i]? = some o → RowOk md ops i o
  | [], k, _, hl, i, o, hi, ho => by
    have := hl (i - k)
    rw [show k + (i - k) = i by omega, ho] at this
    simp at this
  | x :: l, k, h, hl, i, o, hi, ho => by
    simp only [List.map_cons, okS, Bool.and_eq_true] at h
    obtain ⟨⟨h1, h2⟩, h3⟩ := h
    by_cases hik : i = k
    · subst hik
      have hx : x = o := by
        have := hl 0
        simp only [List.getElem?_cons_zero, Nat.add_zero] at this
        rw [ho] at this; exact Option.some.inj this
      subst hx
      refine ⟨fun e he hb => ?_, fun j oj hj hoj => ?_⟩
      · have := List.all_eq_true.1 h1 e.on (mem_waitL.2 ⟨e, he, hb, rfl⟩)
        simpa using this
      · have hm : summ md ops oj ∈ l.map (summ md ops) := by
          have := hl (j - i)
          rw [show i + (j - i) = j by omega, hoj, show j - i = (j - i - 1) + 1 by omega, List.getElem?_cons_succ] at this
          exact List.mem_map_of_mem (List.mem_of_getElem? this)
        have := List.all_eq_true.1 h2 _ hm
        rw [Bool.or_eq_true] at this ⊢
        rcases this with h | h
        · left
          have h' : i ∈ waitL md oj := by simpa [summ] using h
          obtain ⟨e, he, hb, hon⟩ := mem_waitL.1 h'
          rw [Array.any_eq_true']
          exact ⟨e, he, by simp [hb, hon]⟩
        · exact .inr h
    · exact rows_of l (k + 1) h3 (fun j => by have := hl (j + 1); simpa [Nat.add_assoc, Nat.add_comm 1 j] using this) i o (by omega) ho
theorem lexFrom_of (hrow : ∀ (i : Nat) (o : Oper), ops[i]? = some o → RowOk md ops i o) : ∀ (n k : Nat) (listed : Array Bool), n + k = ops.size → listed.size = ops.size → (∀ i, i < ops.size → listed[i]? = some (decide (i < k))) →
    Region.lexFrom md ops n k listed = true
  | 0, k, listed, hn, hs, hl => by
    unfold Region.lexFrom
    rw [List.isEmpty_iff, List.eq_nil_iff_forall_not_mem]
    intro j hj
    obtain ⟨h1, o, ho, _⟩ := mem_ready.1 hj
    have hjs : j < ops.size := (Array.getElem?_eq_some_iff.1 ho).1
    rw [Array.getD_eq_getD_getElem?, hl j hjs] at h1
    simp at h1
    omega
  | n + 1, k, listed, hn, hs, hl => by
    have hk : k < ops.size := by omega
    have ho : ops[k]? = some ops[k] := Array.getElem?_eq_getElem hk
    have hr := hrow k _ ho
    unfold Region.lexFrom
    rw [Bool.and_eq_true, Bool.and_eq_true]
    refine ⟨⟨?_, ?_⟩, lexFrom_of hrow n (k + 1) _ (by omega) (by simpa using hs) (fun i hi => ?_)⟩
    · rw [List.contains_iff_mem]
      refine mem_ready.2 ⟨?_, _, ho, fun e he hb => ?_⟩
      · rw [Array.getD_eq_getD_getElem?, hl k hk]; simp
      · have := hr.before e he hb
        rw [Array.getD_eq_getD_getElem?, hl e.on (by omega)]; simp [this]
    · unfold Region.free
      rw [ho]
      simp only [List.all_eq_true, List.mem_range]
      intro j hj
      by_cases hjk : j = k
      · simp [hjk]
      · by_cases hlt : j < k
        · rw [Array.getD_eq_getD_getElem?, hl j hj]; simp [hlt]
        · have hoj : ops[j]? = some ops[j] := Array.getElem?_eq_getElem hj
          rw [hoj]
          have := hr.free j _ (by omega) hoj
          simp only [this, Bool.or_true]
    · rw [Array.getElem?_setIfInBounds]
      by_cases hik : k = i
      · subst hik
        simp [hs, hk]
      · rw [if_neg hik, hl i hi]
        congr 1
        by_cases h : i < k
        · simp [h]; omega
        · simp [h]; omega
theorem lexB_of (l : List Oper) (h0 : Region.noSelect l.toArray = true) (h : okS 0 (l.map (summ md l.toArray)) = true) : Region.lexB md l.toArray = true := by
  unfold Region.lexB
  rw [h0, Bool.true_and]
  refine lexFrom_of (fun i o ho => rows_of l 0 h (fun j => by simp) i o (Nat.zero_le _) ho) _ 0 _ (by simp) (by simp) (fun i hi => ?_)
  rw [Array.getElem?_replicate, if_pos hi]
  rfl
end
-- the worlds that differ from W by new memory alone
structure Bw (W : World) where
  w : World
  h : Below W.heap.size W w
instance (W : World) : Inhabited (Bw W) := ⟨⟨W, rf W⟩⟩
theorem wp_region_below {P : Program} {id : Nat} {Q : Exit → Act → World → Prop} {a : Act} {w : World} {l : List Oper} (hm : P.follows .mixedOrders = true) (hB : Region.lexB .any l.toArray = true)
    (h : wpQuiet P l.toArray (fun w' => ∃ x : Bw w, w' = x.w) (fun a' => ∀ w', (∃ x : Bw w, w' = x.w) → Q .normal a' w') l a) : (Code.region id l.toArray true).wp P Q a w :=
  wp_region_quiet (C := fun w' => ∃ x : Bw w, w' = x.w) hm hB ⟨⟨w.drew, (rf w).drew⟩, rfl⟩ (by simpa using h)
theorem Calls.bw {P : Program} {f : FuncId} {args : Array Value} {W : World} {v : Value} (x : Bw W) (h : Calls P f args x.w fun e w' => e = .returned v ∧ Below x.w.heap.size x.w w') :
    Calls P f args x.w fun e w'' => e = .returned v ∧ ∃ y : Bw W, w'' = y.w :=
  h.mono fun e w' ⟨he, hb⟩ => ⟨he, ⟨w', nx x.h hb⟩, rfl⟩
end Go.Proofs.Ytmboadgmhafedaa
