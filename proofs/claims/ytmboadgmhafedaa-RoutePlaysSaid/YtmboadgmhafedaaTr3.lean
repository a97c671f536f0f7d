/-
  Routes, the program: the tree in memory.
-/
import Derived.Test.YtmboadgmhafedaaTr2
set_option linter.unusedVariables false
namespace Go.Proofs.Ytmboadgmhafedaa
open Go.RowKit

-- a node: its block, its slice, its routes; a tree: the nodes by their paths (bits, the highest first)
structure Nd where
  (g : Nat)
  (v : Value)
  (rs : List R4)
abbrev Tre := List Nat → Option Nd
def kidV (T : Tre) (p : List Nat) (c : Nat) : Value := match T (p ++ [c]) with
  | some d => .pointer (some ⟨d.g, 0, none⟩)
  | none => .pointer none
structure IsT (w : World) (B t : Nat) (T : Tre) (n : Int) : Prop where
  root : ∃ d, T [] = some d ∧ d.g = t
  blk0 : ∀ d, T [] = some d → Blk w t 32 #[d.v, kidV T [] 0, kidV T [] 1, .int .i64 n]
  blk : ∀ p d, p ≠ [] → T p = some d → Blk w d.g 30 #[d.v, kidV T p 0, kidV T p 1]
  own : ∀ p d, T p = some d → OwnL w B d.v d.rs
  inj : ∀ p q d e, T p = some d → T q = some e → p ≠ q → d.g ≠ e.g
  rows : ∀ p q d e, T p = some d → T q = some e → p ≠ q → d.v.ownBlock = none ∨ d.v.ownBlock ≠ e.v.ownBlock
  pre : ∀ p c, (T (p ++ [c])).isSome = true → (T p).isSome = true
  bits : ∀ p d, T p = some d → p.length ≤ 32 ∧ ∀ c ∈ p, c < 2
  hb : ∀ p d, T p = some d → B ≤ d.g
theorem IsT.nx {w w' : World} {B t : Nat} {T : Tre} {n : Int} (h : IsT w B t T n) (k : Below w.heap.size w w') : IsT w' B t T n :=
  ⟨h.root, fun d hd => (h.blk0 d hd).nx k, fun p d hp hd => (h.blk p d hp hd).nx k, fun p d hd => (h.own p d hd).nx k, h.inj, h.rows, h.pre, h.bits, h.hb⟩
theorem IsT.cell0 {w : World} {B t : Nat} {T : Tre} {n : Int} (h : IsT w B t T n) {p : List Nat} {d : Nd} (hd : T p = some d) : w.cell? ⟨d.g, 0, none⟩ = some d.v := by
  by_cases hp : p = []
  · subst hp
    obtain ⟨d', h1, h2⟩ := h.root
    rw [hd] at h1
    injection h1 with h1
    subst h1
    rw [h2]
    exact (h.blk0 d hd).cell 0
  · exact (h.blk p d hp hd).cell 0
theorem IsT.kid {w : World} {B t : Nat} {T : Tre} {n : Int} (h : IsT w B t T n) {p : List Nat} {d : Nd} (hd : T p = some d) {c : Nat} (hc : c < 2) : w.cell? ⟨d.g, 1 + c, none⟩ = some (kidV T p c) := by
  by_cases hp : p = []
  · subst hp
    obtain ⟨d', h1, h2⟩ := h.root
    rw [hd] at h1
    injection h1 with h1
    subst h1
    rw [h2]
    match c, hc with
    | 0, _ => exact (h.blk0 d hd).cell 1
    | 1, _ => exact (h.blk0 d hd).cell 2
  · match c, hc with
    | 0, _ => exact (h.blk p d hp hd).cell 1
    | 1, _ => exact (h.blk p d hp hd).cell 2
def pth (a k : Nat) : List Nat := (List.range k).map (bt a)
theorem pth_succ (a k : Nat) : pth a (k + 1) = pth a k ++ [bt a k] := by unfold pth; rw [List.range_succ, List.map_append]; rfl
theorem pth_len (a k : Nat) : (pth a k).length = k := by unfold pth; rw [List.length_map, List.length_range]
theorem IsT.none_up {w : World} {B t : Nat} {T : Tre} {n : Int} (h : IsT w B t T n) {a i : Nat} (hn : T (pth a i) = none) : ∀ k, i ≤ k → T (pth a k) = none := by
  intro k hk
  induction k with
  | zero =>
    have : i = 0 := by omega
    subst this
    exact hn
  | succ k ih =>
    by_cases hik : i = k + 1
    · subst hik; exact hn
    · have h1 := ih (by omega)
      cases h2 : T (pth a (k + 1)) with
      | none => rfl
      | some d =>
        have h3 := h.pre (pth a k) (bt a k) (by rw [← pth_succ, h2]; rfl)
        rw [h1] at h3
        cases h3
end Go.Proofs.Ytmboadgmhafedaa
