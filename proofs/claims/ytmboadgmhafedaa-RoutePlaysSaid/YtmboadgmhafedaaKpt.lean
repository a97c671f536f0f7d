/-
  A frame by types: the blocks below n are as they were, but for those of the types ts.
-/
import Derived.Test.YtmboadgmhafedaaW
set_option linter.unusedVariables false
namespace Go.Proofs.Ytmboadgmhafedaa
open Go.RowKit

-- which blocks a step may touch: by their types; a map is named by its type
def tyIn (ts : List TypeId) : Obj → Prop
  | .cells _ t _ => t ∈ ts
  | _ => False
-- the blocks below n are as they were, but for those of the types ts
def KeepT (n : Nat) (ts : List TypeId) (w w' : World) : Prop := ∀ i o, i < n → w.heap[i]? = some o → ¬ tyIn ts o → w'.heap[i]? = some o
section
variable {w w' w2 : World} {n m g B : Nat} {ts us : List TypeId} {t e : TypeId} {cs : Array Value}
theorem tyIn_mono {o : Obj} (h : ∀ t ∈ ts, t ∈ us) (k : tyIn ts o) : tyIn us o := by
  cases o <;> simp only [tyIn] at k ⊢
  all_goals exact h _ k
theorem KeepT.refl : KeepT n ts w w := fun _ _ _ h _ => h
theorem KeepT.mono (h : KeepT n ts w w') (k : ∀ t ∈ ts, t ∈ us) : KeepT n us w w' := fun i o hi ho hn => h i o hi ho fun hh => hn (tyIn_mono k hh)
theorem KeepT.less (h : KeepT n ts w w') (k : m ≤ n) : KeepT m ts w w' := fun i o hi ho hn => h i o (by omega) ho hn
theorem KeepT.trans (h : KeepT n ts w w') (k : KeepT n ts w' w2) : KeepT n ts w w2 := fun i o hi ho hn => k i o hi (h i o hi ho hn) hn
theorem KeepT.trans_ (h : KeepT w.heap.size ts w w') (k : KeepT w'.heap.size ts w' w2) (hs : w.heap.size ≤ w'.heap.size) : KeepT w.heap.size ts w w2 := h.trans (k.less hs)
theorem KeepT.of_below (h : Below B w w') (hB : n ≤ B) : KeepT n ts w w' := fun i o hi ho _ => by rw [h.block i (by omega)]; exact ho
theorem KeepT.of_grown (h : w.grownBy w' (some g)) (hg : n ≤ g ∨ ∃ cs fr, w.heap[g]? = some (.cells cs t fr) ∧ t ∈ ts) (hs : n ≤ w.heap.size) : KeepT n ts w w' := fun i o hi ho hn => by
  have hne : i ≠ g := by
    rintro rfl
    rcases hg with hg | ⟨cs, fr, hg, ht⟩
    · omega
    · rw [hg] at ho; injection ho with ho; subst ho; exact hn ht
  rw [h.block i (by omega) (by intro e; injection e with e; exact hne e)]; exact ho
theorem KeepT.of_none (h : w.grownBy w' none) (hs : n ≤ w.heap.size) : KeepT n ts w w' := fun i o hi ho hn => by
  rw [h.block i (by omega) (by simp)]; exact ho
theorem KeepT.of_set {i : Nat} (hb : Blk w g t cs) (v : Value) (hg : n ≤ g ∨ t ∈ ts) (hs : n ≤ w.heap.size) : KeepT n ts w (w.setCell ⟨g, i, none⟩ v) := fun j o hj ho hn => by
  have hne : j ≠ g := by
    rintro rfl
    rcases hg with hg | ht
    · omega
    · unfold Blk at hb; rw [hb] at ho; injection ho with ho; subst ho; exact hn ht
  exact (Below.heap_setCell w ⟨g, i, none⟩ v j hne).trans ho
theorem KeepT.of_row {size k c : Nat} {A : Option Addr} {xs : List Value} (h : w.grownBy w' (Value.slice A k c).ownBlock) (own : w.ownsRow B e size (.slice A k c) k xs) (hg : n ≤ B ∨ e ∈ ts) (hs : n ≤ w.heap.size) : KeepT n ts w w' := by
  rcases own.2 with ⟨e2, h0⟩ | ⟨g, cap, cur, e2, hB, hh, _⟩
  · rw [e2] at h
    exact KeepT.of_none h hs
  · rw [e2] at h
    refine KeepT.of_grown (t := e) (g := g) h ?_ hs
    rcases hg with hg | hg
    · exact .inl (by omega)
    · exact .inr ⟨_, _, hh, hg⟩
theorem KeepT.blk (h : KeepT n ts w w') (hg : Blk w g t cs) (hn : t ∉ ts) (hlt : g < n) : Blk w' g t cs := h g _ hlt hg hn
theorem KeepT.blk_ (h : KeepT w.heap.size ts w w') (hg : Blk w g t cs) (hn : t ∉ ts) : Blk w' g t cs := h g _ hg.lt hg hn
theorem KeepT.own {size k : Nat} {v : Value} {xs : List Value} (h : KeepT w.heap.size ts w w') (own : w.ownsRow B e size v k xs) (hn : e ∉ ts) : w'.ownsRow B e size v k xs := by
  refine ⟨own.1, ?_⟩
  rcases own.2 with h0 | ⟨g, cap, cur, rfl, hg, hh, hr⟩
  · exact .inl h0
  · exact .inr ⟨g, cap, cur, rfl, hg, h g _ (Blk.lt hh) hh hn, hr⟩
end
end Go.Proofs.Ytmboadgmhafedaa
