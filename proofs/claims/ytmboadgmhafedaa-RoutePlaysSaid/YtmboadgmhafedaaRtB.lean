/-
  Routes: a table that is one chain of nodes, along the bits of an address.
-/
import Derived.Test.YtmboadgmhafedaaRtA
set_option linter.unusedVariables false
namespace Go.Proofs.Ytmboadgmhafedaa
open Go.RowKit

def nilS : Value := .slice none 0 0
def kid (a d : Nat) (g : Nat → Nat) (j c : Nat) : Value := if j < d ∧ bt a j = c then .pointer (some ⟨g (j + 1), 0, none⟩) else .pointer none
structure Ch (w : World) (B a d : Nat) (g : Nat → Nat) (rs : Nat → Value) (n : Int) (Kp : List (Nat × Array Value)) : Prop where
  root : Blk w (g 0) 32 #[rs 0, kid a d g 0 0, kid a d g 0 1, .int .i64 n]
  node : ∀ j, 1 ≤ j → j ≤ d → Blk w (g j) 30 #[rs j, kid a d g j 0, kid a d g j 1]
  inj : ∀ i j, i ≤ d → j ≤ d → g i = g j → i = j
  kp : ∀ p ∈ Kp, Blk w p.1 36 p.2
  lo : ∀ j, j ≤ d → B ≤ g j
  hB : B ≤ w.heap.size
theorem Ch.lt {w : World} {B a d : Nat} {g : Nat → Nat} {rs : Nat → Value} {n : Int} {Kp : List (Nat × Array Value)} (h : Ch w B a d g rs n Kp) {j : Nat} (hj : j ≤ d) : g j < w.heap.size := by
  by_cases h0 : j = 0
  · subst h0; exact h.root.lt
  · exact (h.node j (by omega) hj).lt
theorem Ch.nx {w w' : World} {B a d : Nat} {g : Nat → Nat} {rs : Nat → Value} {n : Int} {Kp : List (Nat × Array Value)} (h : Ch w B a d g rs n Kp) (k : Below w.heap.size w w') : Ch w' B a d g rs n Kp :=
  ⟨h.root.nx k, fun j h1 h2 => (h.node j h1 h2).nx k, h.inj, fun p hp => (h.kp p hp).nx k, h.lo, Nat.le_trans h.hB k.size⟩
theorem Ch.cell0 {w : World} {B a d : Nat} {g : Nat → Nat} {rs : Nat → Value} {n : Int} {Kp : List (Nat × Array Value)} (h : Ch w B a d g rs n Kp) {j : Nat} (hj : j ≤ d) : w.cell? ⟨g j, 0, none⟩ = some (rs j) := by
  by_cases h0 : j = 0
  · subst h0; exact h.root.cell 0
  · exact (h.node j (by omega) hj).cell 0
theorem Ch.kidc {w : World} {B a d : Nat} {g : Nat → Nat} {rs : Nat → Value} {n : Int} {Kp : List (Nat × Array Value)} (h : Ch w B a d g rs n Kp) {j c : Nat} (hj : j ≤ d) (hc : c < 2) : w.cell? ⟨g j, 1 + c, none⟩ = some (kid a d g j c) := by
  match c, hc with
  | 0, _ =>
    by_cases h0 : j = 0
    · subst h0; exact h.root.cell 1
    · exact (h.node j (by omega) hj).cell 1
  | 1, _ =>
    by_cases h0 : j = 0
    · subst h0; exact h.root.cell 2
    · exact (h.node j (by omega) hj).cell 2
theorem Ch.fro {w : World} {B a d : Nat} {g : Nat → Nat} {rs : Nat → Value} {n : Int} {Kp : List (Nat × Array Value)} (h : Ch w B a d g rs n Kp) {j : Nat} (hj : j ≤ d) (i : Nat) : w.frozen? ⟨g j, i, none⟩ = false := by
  by_cases h0 : j = 0
  · subst h0; exact h.root.frozen i
  · exact (h.node j (by omega) hj).frozen i
theorem Ch.cn {w : World} {B a d : Nat} {g : Nat → Nat} {rs : Nat → Value} {n : Int} {Kp : List (Nat × Array Value)} (h : Ch w B a d g rs n Kp) : w.cell? ⟨g 0, 3, none⟩ = some (.int .i64 n) := h.root.cell 3
-- a store into one node's block
theorem Ch.set {w : World} {B a d d' : Nat} {g g' : Nat → Nat} {rs rs' : Nat → Value} {n n' : Int} {Kp : List (Nat × Array Value)} (h : Ch w B a d g rs n Kp) {i o : Nat} (u : Value) (hi : i ≤ d)
    (hd : d = d') (hg : g = g')
    (hr : i = 0 → (#[rs 0, kid a d g 0 0, kid a d g 0 1, .int .i64 n] : Array Value).setIfInBounds o u = #[rs' 0, kid a d g 0 0, kid a d g 0 1, .int .i64 n'])
    (hr0 : i ≠ 0 → rs' 0 = rs 0 ∧ n' = n)
    (hn : i ≠ 0 → (#[rs i, kid a d g i 0, kid a d g i 1] : Array Value).setIfInBounds o u = #[rs' i, kid a d g i 0, kid a d g i 1])
    (hx : ∀ j, 1 ≤ j → j ≠ i → rs' j = rs j) : Ch (w.setCell ⟨g i, o, none⟩ u) B a d' g' rs' n' Kp := by
  subst hd hg
  refine ⟨?_, ?_, h.inj, ?_, h.lo, by simpa using h.hB⟩
  · by_cases h0 : i = 0
    · subst h0
      rw [← hr rfl]
      exact h.root.set_ o u
    · obtain ⟨e1, e2⟩ := hr0 h0
      rw [e1, e2]
      exact h.root.far (p := ⟨g i, o, none⟩) (fun e => h0 (h.inj 0 i (by omega) hi e).symm) u
  · intro j h1 h2
    by_cases hj : j = i
    · subst hj
      rw [← hn (by omega)]
      exact (h.node j h1 h2).set_ o u
    · rw [hx j h1 hj]
      exact (h.node j h1 h2).far (p := ⟨g i, o, none⟩) (fun e => hj (h.inj j i h2 hi e)) u
  · intro p hp
    refine (h.kp p hp).far (p := ⟨g i, o, none⟩) ?_ u
    by_cases h0 : i = 0
    · subst h0; exact (h.kp p hp).ne_ h.root (by decide)
    · exact (h.kp p hp).ne_ (h.node i (by omega) hi) (by decide)
def up {α : Type} (f : Nat → α) (i : Nat) (v : α) : Nat → α := fun j => if j = i then v else f j
theorem up_at {α : Type} {f : Nat → α} {i : Nat} {v : α} : up f i v i = v := if_pos rfl
theorem up_ne {α : Type} {f : Nat → α} {i j : Nat} {v : α} (h : j ≠ i) : up f i v j = f j := if_neg h
-- the routes of a node are laid
theorem Ch.setr {w : World} {B a d : Nat} {g : Nat → Nat} {rs : Nat → Value} {n : Int} {Kp : List (Nat × Array Value)} (h : Ch w B a d g rs n Kp) {i : Nat} (u : Value) (hi : i ≤ d) : Ch (w.setCell ⟨g i, 0, none⟩ u) B a d g (up rs i u) n Kp :=
  h.set u hi rfl rfl (fun h0 => by subst h0; rw [up_at]; rfl) (fun h0 => ⟨up_ne (Ne.symm h0), rfl⟩) (fun h0 => by rw [up_at]; rfl) (fun j _ hj => up_ne hj)
theorem Ch.setn {w : World} {B a d : Nat} {g : Nat → Nat} {rs : Nat → Value} {n : Int} {Kp : List (Nat × Array Value)} (h : Ch w B a d g rs n Kp) (m : Int) : Ch (w.setCell ⟨g 0, 3, none⟩ (.int .i64 m)) B a d g rs m Kp :=
  h.set (i := 0) _ (Nat.zero_le _) rfl rfl (fun _ => rfl) (fun h0 => absurd rfl h0) (fun h0 => absurd rfl h0) (fun j _ _ => rfl)
-- a node behind the last
theorem Ch.grow {w : World} {B a d : Nat} {g : Nat → Nat} {rs : Nat → Value} {n : Int} {Kp : List (Nat × Array Value)} (h : Ch w B a d g rs n Kp) :
    Ch ((w.alloc (.cells #[nilS, .pointer none, .pointer none] 30)).setCell ⟨g d, 1 + bt a d, none⟩ (.pointer (some ⟨w.heap.size, 0, none⟩))) B a (d + 1) (up g (d + 1) w.heap.size) (up rs (d + 1) nilS) n Kp := by
  have hb := bt_lt a d
  have hlt : ∀ j, j ≤ d → g j < w.heap.size := fun j hj => h.lt hj
  have k0 : ∀ j, j < d → ∀ c, kid a (d + 1) (up g (d + 1) w.heap.size) j c = kid a d g j c := by
    intro j hj c
    unfold kid
    rw [up_ne (show j + 1 ≠ d + 1 by omega)]
    simp only [show j < d + 1 by omega, hj, true_and]
  have kd : ∀ c, kid a d g d c = .pointer none := fun c => by unfold kid; rw [if_neg (by omega)]
  have kd1 : ∀ c, kid a (d + 1) (up g (d + 1) w.heap.size) d c = if bt a d = c then .pointer (some ⟨w.heap.size, 0, none⟩) else .pointer none := fun c => by
    unfold kid
    simp only [show d < d + 1 by omega, true_and, up_at]
  have kn : ∀ c, kid a (d + 1) (up g (d + 1) w.heap.size) (d + 1) c = .pointer none := fun c => by unfold kid; rw [if_neg (by omega)]
  have A := h.nx (al (rf w) (.cells #[nilS, .pointer none, .pointer none] 30))
  have N := Blk.new w 30 #[nilS, .pointer none, .pointer none]
  have two : ∀ c, c < 2 → c = 0 ∨ c = 1 := by omega
  refine ⟨?_, ?_, ?_, ?_, ?_, ?_⟩
  · rw [up_ne (by omega), up_ne (by omega)]
    by_cases h0 : d = 0
    · subst h0
      have := A.root.set_ (1 + bt a 0) (.pointer (some ⟨w.heap.size, 0, none⟩))
      rw [kd, kd] at this
      rw [kd1, kd1]
      rcases two _ hb with e | e <;> (rw [e] at this ⊢; exact this)
    · rw [k0 0 (by omega), k0 0 (by omega)]
      exact A.root.far (p := ⟨g d, 1 + bt a d, none⟩) (fun e => h0 (h.inj 0 d (by omega) (by omega) e).symm) _
  · intro j h1 h2
    by_cases hj : j = d + 1
    · subst hj
      rw [up_at, up_at, kn, kn]
      exact N.far (p := ⟨g d, 1 + bt a d, none⟩) (by have := hlt d (Nat.le_refl _); exact Nat.ne_of_gt this) _
    · rw [up_ne hj, up_ne hj]
      by_cases hd : j = d
      · subst hd
        have := (A.node j h1 (Nat.le_refl _)).set_ (1 + bt a j) (.pointer (some ⟨w.heap.size, 0, none⟩))
        rw [kd, kd] at this
        rw [kd1, kd1]
        rcases two _ hb with e | e <;> (rw [e] at this ⊢; exact this)
      · rw [k0 j (by omega), k0 j (by omega)]
        exact (A.node j h1 (by omega)).far (p := ⟨g d, 1 + bt a d, none⟩) (fun e => hd (h.inj j d (by omega) (by omega) e)) _
  · intro i j hi hj e
    by_cases h1 : i = d + 1
    · by_cases h2 : j = d + 1
      · omega
      · subst h1
        rw [up_at, up_ne h2] at e
        have := hlt j (by omega); omega
    · by_cases h2 : j = d + 1
      · subst h2
        rw [up_at, up_ne h1] at e
        have := hlt i (by omega); omega
      · rw [up_ne h1, up_ne h2] at e
        exact h.inj i j (by omega) (by omega) e
  · intro p hp
    refine (A.kp p hp).far (p := ⟨g d, 1 + bt a d, none⟩) ?_ _
    by_cases h0 : d = 0
    · subst h0; exact (A.kp p hp).ne_ A.root (by decide)
    · exact (A.kp p hp).ne_ (A.node d (by omega) (Nat.le_refl _)) (by decide)
  · intro j hj
    by_cases h1 : j = d + 1
    · subst h1; rw [up_at]; exact h.hB
    · rw [up_ne h1]; exact h.lo j (by omega)
  · have := h.hB
    simp; omega
end Go.Proofs.Ytmboadgmhafedaa
