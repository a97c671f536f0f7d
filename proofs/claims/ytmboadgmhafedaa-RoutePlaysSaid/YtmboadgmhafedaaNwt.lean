/-
  A drawn region whose operations make memory and store into one block: the class of worlds, and what literals, appends and the store lay down.
-/
import Derived.Test.YtmboadgmhafedaaNws
import Derived.Test.YtmboadgmhafedaaMem
set_option linter.unusedVariables false
namespace Go.Proofs.Ytmboadgmhafedaa
open Go.RowKit

theorem run_append_zero_ {P : Program} (w : World) (t ty e : TypeId) (i : TypeInfo) (z : Value) (size bytes : Nat) (ht : P.underlying t = some (.slice e)) (hi : P.info? e = some i) (hz : i.zero = some z) (hsize : i.size = size) (hby : i.bytes = bytes) (hzs : z.cells.size = size) (hsz : 0 < size)
    (g : Nat) (A : Option Addr) (m c : Nat) (news : List Value) (hr : Reads w w.heap.size size A m news) (h63 : m ≤ 140737488355328) (hbytes : m * bytes ≤ 140737488355328) :
    ∃ A' c' w', (Builtin.append_ #[t, t] ty #[.slice (some ⟨g, 0, none⟩) 0 0, .slice A m c]).run P w = .ok (.slice A' m c') w' ∧ Reads w' w'.heap.size size A' m news ∧ Below w.heap.size w w' ∧ (0 < m → ∃ g', A' = some ⟨g', 0, none⟩ ∧ w.heap.size ≤ g') ∧ m ≤ c' := by
  subst hsize hby
  by_cases hm : m = 0
  · subst hm
    have hn : news = [] := List.eq_nil_of_length_eq_zero (by simpa using hr.1)
    subst hn
    refine ⟨some ⟨g, 0, none⟩, 0, w, ?_, ⟨by simp, fun h => absurd h (by omega)⟩, Below.refl _ _, fun h => absurd h (by omega), Nat.le_refl _⟩
    cases A <;> simp [Builtin.append_, run_underlying ht, sizeOf, typeInfo, hi, Builtin.lenOf, Builtin.firstCells, loadCells, loadCellsFrom, storeCells]
  · obtain ⟨ad, rfl, _, hcell⟩ := hr.2 (by omega)
    have hg := run_append_grow (P := P) w t ty e i z ht hi hz ⟨g, 0, none⟩ 0 0 [] (by simp) (by simp) ad m c news hr.1 hcell (by omega) (by omega) (growslice_fits (by omega) (by rw [Nat.zero_add]; exact hbytes))
    have hge := grownCap_ge w (0 + m) 0 e
    rw [Nat.zero_add] at hg hge
    refine ⟨_, _, _, hg, ⟨hr.1, fun _ => ⟨_, rfl, by simp, fun j u hu => ?_⟩⟩, ?_, fun _ => ⟨_, rfl, Nat.le_refl _⟩, hge⟩
    · have hj : j < news.length := (List.getElem?_eq_some_iff.1 hu).1
      rw [Addr.add_mid, Nat.zero_add]
      refine ((Blk.new w.drew e _).cell j).trans ?_
      rw [Array.getElem?_append_left (by simp; omega)]
      simpa using hu
    · exact ((Below.refl _ _).drew).alloc (by simp) _
structure Gw (W : World) (b : Nat) where
  w : World
  h : W.grownBy w (some b)
instance (W : World) (b : Nat) : Inhabited (Gw W b) := ⟨⟨W, World.grownBy.refl _ _⟩⟩
section
variable {P : Program} {ops : Array Oper} {W : World} {b : Nat} {T : TypeId} {cs : Array Value} {m k : Nat} {o : Oper} {a : Act} {rest : List Oper} {F : World → Prop} {Q : Exit → Act → World → Prop}
theorem wpNew_anti {C Z : World → Prop} {R Rm : World → World → Prop} {Q : Kt} (hQ : Anti Q) : ∀ (l : List Oper) (k : Nat), Anti (wpNew P ops C Z R Rm m Q k l)
  | [], k => hQ
  | o :: l, k => by
    intro F F' a hF h
    unfold wpNew at *
    split
    · rename_i hw
      simp only [hw, if_true] at h
      rcases h with ⟨v, h1, h2⟩ | ⟨hn, Φ, h1, h2, h3⟩
      · exact .inl ⟨v, h1, wpNew_anti hQ l _ _ _ _ hF h2⟩
      · exact .inr ⟨hn, Φ, h1, h2, fun v hv => wpNew_anti hQ l _ _ _ _ (fun w hw => ⟨hF w hw.1, hw.2⟩) (h3 v hv)⟩
    · rename_i hw
      simp only [hw] at h
      exact wpNew_anti hQ l _ _ _ _ hF h
abbrev Nw (P : Program) (ops : Array Oper) (W : World) (b : Nat) (T : TypeId) (cs : Array Value) (m : Nat) (Q : Exit → Act → World → Prop) : Nat → List Oper → Kt :=
  wpNew P ops (fun w' => ∃ x : Gw W b, w' = x.w) (fun w' => Blk w' b T cs) (fun x y => Below x.heap.size x y) (fun x y => x.grownBy y (some b)) m (fun F a' => ∀ w', (∃ x : Gw W b, w' = x.w) → F w' → Q .normal a' w')
theorem Nw.weak {F' : World → Prop} {l : List Oper} (hF : ∀ w, F' w → F w) (h : Nw P ops W b T cs m Q k l F a) : Nw P ops W b T cs m Q k l F' a :=
  by
  have hA : Anti (fun F a' => ∀ w', (∃ x : Gw W b, w' = x.w) → F w' → Q .normal a' w') := fun F F' a hF h w' hC hF' => h w' hC (hF w' hF')
  exact wpNew_anti hA l k _ _ _ hF h
theorem wp_region_gw (b : Nat) (T : TypeId) (cs : Array Value) (m : Nat) {id : Nat} {w : World} {l : List Oper} (hm : P.follows .mixedOrders = true) (hB : Region.lexB .any l.toArray = true) (hI : okI .any 0 l = true) (hZ : Blk w b T cs)
    (h : Nw P l.toArray w b T cs m Q 0 l (fun _ => True) a) : (Code.region id l.toArray true).wp P Q a w :=
  wp_region_news _ _ _ _ m hm hB hI (fun w => rf w) (fun w => World.grownBy.refl _ _) ⟨⟨w.drew, only_of (rf w).drew⟩, rfl⟩ (hZ.nx (rf w).drew) (fun w w' h z => z.nx h) h
theorem nR_of_wp {i : Nat} {Φ : World → Prop} (hin : inert o = true) (h : ∀ w, (∃ x : Gw W b, w = x.w) → (i = m → Blk w b T cs) → o.wp P a w (fun _ w' => (∃ x : Gw W b, w' = x.w) ∧ (if i = m then w.grownBy w' (some b) else Below w.heap.size w w') ∧ Φ w') (fun _ _ _ => False)) :
    Oper.nR P i o a (fun w' => ∃ x : Gw W b, w' = x.w) (fun w' => Blk w' b T cs) (fun x y => Below x.heap.size x y) (fun x y => x.grownBy y (some b)) m (fun _ w' => Φ w') := by
  intro w hC hZ
  have h1 := h w hC hZ
  unfold Oper.wp at h1
  cases hr : (execOp a.eval o).run P w with
  | ok n w' =>
    rw [hr] at h1
    rcases inert_run hin hr with ⟨x, rfl⟩ | rfl
    · exact ⟨x, w', .inl rfl, h1⟩
    · exact ⟨undef, w', .inr ⟨rfl, rfl⟩, h1⟩
  | halt x w' =>
    rw [hr] at h1
    unfold Oper.upon at h1
    split at h1 <;> simp_all
theorem news_lit0 (hw : Region.wanted o (yielded ops a.tmps) = true) (t : TypeId) (ho : o.op = .buildSlice t 0 #[]) (hrun : ∀ w : World, ∃ ob : Obj, (Instr.buildSlice t 0 #[]).run P w = .ok (.slice (some ⟨w.heap.size, 0, none⟩) 0 0) (w.alloc ob)) (hkm : k ≠ m)
    (h : ∀ g : Nat, Nw P ops W b T cs m Q (k + 1) rest F (a.put o.dst (.slice (some ⟨g, 0, none⟩) 0 0))) : Nw P ops W b T cs m Q k (o :: rest) F a := by
  refine wpNew_news (fun v _ => ∃ g : Nat, v = .slice (some ⟨g, 0, none⟩) 0 0) hw (by unfold newsy; rw [ho]) (fun _ _ _ _ h => h) (fun w hC _ => ?_) (fun v hv => ?_)
  · obtain ⟨ob, hr⟩ := hrun w
    obtain ⟨x, rfl⟩ := hC
    refine ⟨.slice (some ⟨x.w.heap.size, 0, none⟩) 0 0, x.w.alloc ob, .inl ?_, ⟨⟨x.w.alloc ob, only_trans x.h (only_of (al (rf x.w) ob))⟩, rfl⟩, ?_, ⟨_, rfl⟩⟩
    · unfold execOp
      simp only [ho, List.map_toArray, List.map_nil, Sem.run_bind, Sem.run_pure, hr, Result.andThen_ok]
    · rw [if_neg hkm]; exact al (rf x.w) ob
  · obtain ⟨w, _, g, rfl⟩ := hv
    exact Nw.weak (fun w h => h.1) (h g)
theorem news_app0 {TS E : TypeId} {size bytes : Nat} {z : Value} (S : SliceTy P TS E size bytes z) (hw : Region.wanted o (yielded ops a.tmps) = true) (s x : Operand)
    (ho : o.op = .call { callee := .builtin .append, args := #[s, x], argTypes := #[TS, TS] }) (hkm : k ≠ m) (hb : b < W.heap.size)
    (g : Nat) (hs : a.eval s = .slice (some ⟨g, 0, none⟩) 0 0) (A : Option Addr) (n c : Nat) (news : List Value) (hx : a.eval x = .slice A n c) (hr : ∀ y : Gw W b, Reads y.w y.w.heap.size size A n news) (hlen : n ≤ 140737488355328) (hbytes : n * bytes ≤ 140737488355328)
    (h : ∀ (A' : Option Addr) (c' : Nat), Nw P ops W b T cs m Q (k + 1) rest (fun w' => F w' ∧ Reads w' w'.heap.size size A' n news ∧ (0 < n → ∃ g', A' = some ⟨g', 0, none⟩ ∧ W.heap.size ≤ g') ∧ n ≤ c') (a.put o.dst (.slice A' n c'))) : Nw P ops W b T cs m Q k (o :: rest) F a := by
  refine wpNew_news (fun v w' => ∃ A' c', v = .slice A' n c' ∧ Reads w' w'.heap.size size A' n news ∧ (0 < n → ∃ g', A' = some ⟨g', 0, none⟩ ∧ W.heap.size ≤ g') ∧ n ≤ c') hw (by unfold newsy; rw [ho]) (fun v w w' hww h => ?_) (fun w hC _ => ?_) (fun v hv => ?_)
  · obtain ⟨A', c', rfl, h1, h2, hcap⟩ := h
    refine ⟨A', c', rfl, ?_, h2, hcap⟩
    by_cases hn : 0 < n
    · obtain ⟨g', rfl, hg⟩ := h2 hn
      refine ⟨h1.1, fun _ => ?_⟩
      obtain ⟨ad, e1, h3, h4⟩ := h1.2 hn
      injection e1 with e1
      subst e1
      have hsz : w.heap.size ≤ w'.heap.size := by rcases hww with h | ⟨_, h⟩ <;> exact h.size
      have hbl : w'.heap[g']? = w.heap[g']? := by
        rcases hww with h | ⟨_, h⟩
        · exact h.block g' h3
        · exact h.block g' h3 (by intro e; injection e with e; omega)
      exact ⟨_, rfl, by show g' < _; have : g' < w.heap.size := h3; omega, fun j u hu => (World.cell?_of_block (by rw [block_of_add]; exact hbl)).trans (h4 j u hu)⟩
    · have hn0 : n = 0 := by omega
      subst hn0
      exact ⟨h1.1, fun h => absurd h (by omega)⟩
  · obtain ⟨y, rfl⟩ := hC
    obtain ⟨i, hi, hz0, hz1, hz2⟩ := info_parts S.hi
    obtain ⟨A', c', w', hrun, h2, h3, h4, h5⟩ := run_append_zero_ (P := P) y.w TS o.type E i z size bytes S.ht hi hz0 hz1 hz2 S.hz S.hs g A n c news (hr y) hlen hbytes
    refine ⟨.slice A' n c', w', .inl ?_, ⟨⟨w', only_trans y.h (only_of h3)⟩, rfl⟩, ?_, ⟨A', c', rfl, h2, fun hn => ?_, h5⟩⟩
    · unfold execOp
      simp only [ho, resolve, invoke, builtin, Sem.run_bind, Sem.run_pure, Result.andThen_ok, List.map_toArray, List.map_cons, List.map_nil, hs, hx, hrun]
    · rw [if_neg hkm]; exact h3
    · obtain ⟨g', e, hg⟩ := h4 hn
      exact ⟨g', e, Nat.le_trans y.h.size hg⟩
  · obtain ⟨w, _, A', c', rfl, _, _⟩ := hv
    refine Nw.weak (fun w h => ⟨h.1, ?_⟩) (h A' c')
    obtain ⟨A2, c2, e, h1, h2⟩ := h.2
    injection e with e1 e2 e3
    subst e1 e3
    exact ⟨h1, h2⟩
theorem news_store (hw : Region.wanted o (yielded ops a.tmps) = true) (ty : TypeId) (x y : Tmp) (ho : o.op = .store ty (.tmp x) (.tmp y)) (hkm : k = m) (off : Nat) (cells cur : List Value)
    (hx : a.tmps.getD x undef = .pointer (some ⟨b, off, none⟩)) (hy : a.tmps.getD y undef = .agg cells.toArray) (hcs : cs = cur.toArray) (hfit : off + cells.length ≤ cur.length)
    (hi : (P.info? ty).map (·.size) = some cells.length) (h1 : ∀ v ∈ cells, v.oneCell' = true)
    (h : Nw P ops W b T cs m Q (k + 1) rest (fun w' => F w' ∧ Blk w' b T (splice cur off cells).toArray) (a.put o.dst undef)) : Nw P ops W b T cs m Q k (o :: rest) F a := by
  have hd : inert o = true := by unfold inert; rw [ho]
  have hwp : ∀ w, (∃ x : Gw W b, w = x.w) → (k = m → Blk w b T cs) → (∃ w', (execOp a.eval o).run P w = .ok .skip w' ∧ (∃ x : Gw W b, w' = x.w) ∧ w.grownBy w' (some b) ∧ Blk w' b T (splice cur off cells).toArray) := by
    intro w hC hZ
    obtain ⟨x', rfl⟩ := hC
    have hB := hZ hkm
    rw [hcs] at hB
    have hh := wp_store_blk (P := P) (op := o) (a := a) (w := x'.w) (K := fun a' w' => (∃ x : Gw W b, w' = x.w) ∧ x'.w.grownBy w' (some b) ∧ Blk w' b T (splice cur off cells).toArray) (Q := fun _ _ _ => False) ty x y ho b off cells hx hy T cur hB hfit hi h1 (fun w' h2 h3 => ⟨⟨⟨w', only_trans x'.h h3⟩, rfl⟩, h3, h2⟩)
    unfold Oper.wp at hh
    cases hr : (execOp a.eval o).run P x'.w with
    | ok n w' =>
      rw [hr] at hh
      have hn : n = .skip := by
        unfold execOp at hr
        rw [ho] at hr
        exact run_unit hr
      subst hn
      exact ⟨w', rfl, hh⟩
    | halt z w' =>
      rw [hr] at hh
      unfold Oper.upon at hh
      split at hh <;> simp_all
  refine wpNew_news (fun v w' => v = undef ∧ Blk w' b T (splice cur off cells).toArray) hw (by unfold newsy; rw [ho]) (fun v w w' hww h => ?_) (fun w hC hZ => ?_) (fun v hv => ?_)
  · rcases hww with h2 | ⟨hk, _⟩
    · exact ⟨h.1, h.2.nx h2⟩
    · exact absurd hkm hk
  · obtain ⟨w', hr, hx', hg, hB⟩ := hwp w hC hZ
    exact ⟨undef, w', .inr ⟨hr, rfl⟩, hx', by rw [if_pos hkm]; exact hg, rfl, hB⟩
  · obtain ⟨_, _, rfl, _⟩ := hv
    exact Nw.weak (fun w h => ⟨h.1, h.2.2⟩) h
end
end Go.Proofs.Ytmboadgmhafedaa
