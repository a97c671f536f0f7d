/-
  Loads and stores of rows of cells in a block that is known whole.
-/
import Derived.Test.YtmboadgmhafedaaW
set_option linter.unusedVariables false
namespace Go.Proofs.Ytmboadgmhafedaa
open Go.RowKit

theorem splice_nil (cur : List Value) (o : Nat) : splice cur o [] = cur := by simp [splice]
theorem splice_cons (cur : List Value) (o : Nat) (v : Value) (vs : List Value) (h : o < cur.length) : splice (cur.set o v) (o + 1) vs = splice cur o (v :: vs) := by
  unfold splice
  have e1 : (cur.set o v).take (o + 1) = cur.take o ++ [v] := by
    rw [List.take_succ_eq_append_getElem (by simpa using h), List.getElem_set_self, List.take_set_of_le (Nat.le_refl o)]
  have e2 : (cur.set o v).drop (o + 1 + vs.length) = cur.drop (o + (vs.length + 1)) := by
    rw [List.drop_set_of_lt (by omega)]; congr 1; omega
  rw [e1, e2]; simp
theorem Blk.setCells {g : Nat} {t : TypeId} : ∀ (vs : List Value) (o : Nat) (a w : World) (cur : List Value), Blk w g t cur.toArray → o + vs.length ≤ cur.length → a.grownBy w (some g) →
    Blk (w.setCells g o vs) g t (splice cur o vs).toArray ∧ a.grownBy (w.setCells g o vs) (some g)
  | [], o, a, w, cur, hb, hl, hg => ⟨by rw [splice_nil]; exact hb, hg⟩
  | v :: vs, o, a, w, cur, hb, hl, hg => by
    simp only [List.length_cons] at hl
    have hb' : Blk (w.setCell ⟨g, o, none⟩ v) g t (cur.set o v).toArray := by
      have := hb.set_ o v
      rwa [List.setIfInBounds_toArray] at this
    have h := Blk.setCells vs (o + 1) a (w.setCell ⟨g, o, none⟩ v) (cur.set o v) hb' (by rw [List.length_set]; omega) (only_setCell hg (.inl rfl) _)
    rw [splice_cons _ _ _ _ (by omega)] at h
    exact h
theorem Blk.there {w : World} {g : Nat} {t : TypeId} {cur : List Value} (h : Blk w g t cur.toArray) (o n : Nat) (hn : o + n ≤ cur.length) : w.there g o n := fun j hj =>
  ⟨by rw [h.cell, List.getElem?_toArray, List.getElem?_eq_getElem (by omega)]; rfl, h.frozen _⟩
theorem Blk.range {w : World} {g : Nat} {t : TypeId} {cur : List Value} (h : Blk w g t cur.toArray) (o n : Nat) (vs : List Value) (hv : (cur.drop o).take n = vs) : w.rangeAt g o vs := fun j v hj => by
  subst hv
  rw [h.cell, List.getElem?_toArray]
  by_cases hn : j < n
  · rw [List.getElem?_take_of_lt hn, List.getElem?_drop] at hj; exact hj
  · rw [List.getElem?_eq_none (by rw [List.length_take]; omega)] at hj; cases hj
section
variable {P : Program} {ops : Array Oper} {rest : List Oper} {op : Oper} {a : Act} {w : World} {Q : Exit → Act → World → Prop}
theorem wp_store_blk {K : Act → World → Prop} (ty : TypeId) (x y : Tmp) (ho : op.op = .store ty (.tmp x) (.tmp y))
    (g o : Nat) (cells : List Value) (hx : a.tmps.getD x undef = .pointer (some ⟨g, o, none⟩)) (hy : a.tmps.getD y undef = .agg cells.toArray) (t : TypeId) (cur : List Value) (hB : Blk w g t cur.toArray) (hfit : o + cells.length ≤ cur.length)
    (hi : (P.info? ty).map (·.size) = some cells.length) (h1 : ∀ v ∈ cells, v.oneCell' = true)
    (h : ∀ w', Blk w' g t (splice cur o cells).toArray → w.grownBy w' (some g) → K (a.put op.dst undef) w') : op.wp P a w K Q := by
  obtain ⟨h2, h3⟩ := Blk.setCells cells o w w cur hB hfit (World.grownBy.refl w _)
  refine wp_store_mid ty (.tmp x) (.tmp y) ho g o cells.toArray hx hy (by simpa using hB.there o cells.length hfit) (by simpa using hi) (all_oneCell_toArray h1) ?_
  exact h _ h2 h3
theorem wpList_store_blk (hgd : op.guard = none) (ty : TypeId) (x y : Tmp) (ho : op.op = .store ty (.tmp x) (.tmp y))
    (g o : Nat) (cells : List Value) (hx : a.tmps.getD x undef = .pointer (some ⟨g, o, none⟩)) (hy : a.tmps.getD y undef = .agg cells.toArray) (t : TypeId) (cur : List Value) (hB : Blk w g t cur.toArray) (hfit : o + cells.length ≤ cur.length)
    (hi : (P.info? ty).map (·.size) = some cells.length) (h1 : ∀ v ∈ cells, v.oneCell' = true)
    (h : ∀ w', Blk w' g t (splice cur o cells).toArray → w.grownBy w' (some g) → wpList P ops Q rest (a.put op.dst undef) w') : wpList P ops Q (op :: rest) a w :=
  wpList_plain hgd fun _ hK => wp_store_blk ty x y ho g o cells hx hy t cur hB hfit hi h1 fun w' h2 h3 => hK _ _ (h w' h2 h3)
theorem wpList_store_blkG (hw : Region.wanted op (yielded ops a.tmps) = true) (ty : TypeId) (x y : Tmp) (ho : op.op = .store ty (.tmp x) (.tmp y))
    (g o : Nat) (cells : List Value) (hx : a.tmps.getD x undef = .pointer (some ⟨g, o, none⟩)) (hy : a.tmps.getD y undef = .agg cells.toArray) (t : TypeId) (cur : List Value) (hB : Blk w g t cur.toArray) (hfit : o + cells.length ≤ cur.length)
    (hi : (P.info? ty).map (·.size) = some cells.length) (h1 : ∀ v ∈ cells, v.oneCell' = true)
    (h : ∀ w', Blk w' g t (splice cur o cells).toArray → w.grownBy w' (some g) → wpList P ops Q rest (a.put op.dst undef) w') : wpList P ops Q (op :: rest) a w :=
  BigFrame.wpList_want hw fun _ hK => wp_store_blk ty x y ho g o cells hx hy t cur hB hfit hi h1 fun w' h2 h3 => hK _ _ (h w' h2 h3)
theorem wp_load_blk {K : Act → World → Prop} (ty : TypeId) (x : Tmp) (ho : op.op = .load ty (.tmp x))
    (g o n : Nat) (hx : a.tmps.getD x undef = .pointer (some ⟨g, o, none⟩)) (t : TypeId) (cur vs : List Value) (hB : Blk w g t cur.toArray) (hv : (cur.drop o).take n = vs) (d : TypeDesc)
    (hu : P.underlying ty = some d) (hd : d.isRow = true) (hi : (P.info? ty).map (·.size) = some vs.length)
    (h : K (a.put op.dst (.agg vs.toArray)) w) : op.wp P a w K Q :=
  wp_load_mid ty (.tmp x) ho g o hx vs d (hB.range o n vs hv) hu hd hi h
theorem wpList_load_blk (hgd : op.guard = none) (ty : TypeId) (x : Tmp) (ho : op.op = .load ty (.tmp x))
    (g o n : Nat) (hx : a.tmps.getD x undef = .pointer (some ⟨g, o, none⟩)) (t : TypeId) (cur vs : List Value) (hB : Blk w g t cur.toArray) (hv : (cur.drop o).take n = vs) (d : TypeDesc)
    (hu : P.underlying ty = some d) (hd : d.isRow = true) (hi : (P.info? ty).map (·.size) = some vs.length)
    (h : wpList P ops Q rest (a.put op.dst (.agg vs.toArray)) w) : wpList P ops Q (op :: rest) a w :=
  wpList_plain hgd fun _ hK => wp_load_blk ty x ho g o n hx t cur vs hB hv d hu hd hi (hK _ _ h)
theorem wpList_load_blkG (hw : Region.wanted op (yielded ops a.tmps) = true) (ty : TypeId) (x : Tmp) (ho : op.op = .load ty (.tmp x))
    (g o n : Nat) (hx : a.tmps.getD x undef = .pointer (some ⟨g, o, none⟩)) (t : TypeId) (cur vs : List Value) (hB : Blk w g t cur.toArray) (hv : (cur.drop o).take n = vs) (d : TypeDesc)
    (hu : P.underlying ty = some d) (hd : d.isRow = true) (hi : (P.info? ty).map (·.size) = some vs.length)
    (h : wpList P ops Q rest (a.put op.dst (.agg vs.toArray)) w) : wpList P ops Q (op :: rest) a w :=
  BigFrame.wpList_want hw fun _ hK => wp_load_blk ty x ho g o n hx t cur vs hB hv d hu hd hi (hK _ _ h)
end
-- the same pointers and lists, by 'only'
theorem only_trans {a w v : World} {b : Nat} (h : a.grownBy w (some b)) (k : w.grownBy v (some b)) : a.grownBy v (some b) :=
  ⟨k.os.trans h.os, k.tape.trans h.tape, k.output.trans h.output, Nat.le_trans h.size k.size, fun i hi hne => (k.block i (Nat.lt_of_lt_of_le hi h.size) hne).trans (h.block i hi hne)⟩
theorem only_of {a w : World} {b : Nat} (h : Below a.heap.size a w) : a.grownBy w (some b) := ⟨h.os, h.tape, h.output, h.size, fun i hi _ => h.block i hi⟩
theorem only_nx {a w v : World} {b : Nat} (h : a.grownBy w (some b)) (k : Below w.heap.size w v) : a.grownBy v (some b) := only_trans h (only_of k)
theorem below_only {a w : World} {b B : Nat} (h : a.grownBy w (some b)) (hB : B ≤ b) (hs : B ≤ a.heap.size) : Below B a w :=
  ⟨h.os, h.tape, h.output, h.size, fun k hk => h.block k (by omega) (by intro e; injection e with e; omega)⟩
theorem Blk.only {w w' : World} {g b : Nat} {t : TypeId} {cs : Array Value} (h : Blk w g t cs) (k : w.grownBy w' (some b)) (hne : g ≠ b) : Blk w' g t cs := h.grown k (by intro e; injection e with e; exact hne e)
end Go.Proofs.Ytmboadgmhafedaa
