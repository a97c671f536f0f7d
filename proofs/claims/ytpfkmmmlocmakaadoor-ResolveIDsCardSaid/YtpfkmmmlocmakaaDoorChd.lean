/-
  A region that draws its order, whose operations that touch memory stand in a chain from one known world to the next: a literal, an append onto an old row, a store into block b; the others only read. D: the blocks beside b that may turn.
-/
import Derived.Test.YtpfkmmmlocmakaaDoorChn
set_option linter.unusedVariables false
namespace Go.Proofs.YtpfkmmmlocmakaaDoor
open Go.RowKit

structure Cd (W : World) (b : Nat) (D : Nat → Prop) (w' : World) : Prop where
  os : w'.os = W.os
  tape : w'.tape = W.tape
  output : w'.output = W.output
  size : W.heap.size ≤ w'.heap.size
  block : ∀ i, i < W.heap.size → i ≠ b → ¬ D i → w'.heap[i]? = W.heap[i]?
theorem Cd.refl (W : World) (b : Nat) (D : Nat → Prop) : Cd W b D W := ⟨rfl, rfl, rfl, Nat.le_refl _, fun _ _ _ _ => rfl⟩
theorem Cd.nx {W w w' : World} {b : Nat} {D : Nat → Prop} (h : Cd W b D w) (k : Below w.heap.size w w') : Cd W b D w' :=
  ⟨k.os.trans h.os, k.tape.trans h.tape, k.output.trans h.output, Nat.le_trans h.size k.size, fun i hi h1 h2 => (k.block i (Nat.lt_of_lt_of_le hi h.size)).trans (h.block i hi h1 h2)⟩
structure Gd (W : World) (b : Nat) (D : Nat → Prop) (T : TypeId) (cs : Array Value) where
  w : World
  h : Cd W b D w
  z : Blk w b T cs
theorem Gd.blk {W : World} {b : Nat} {D : Nat → Prop} {T T' : TypeId} {cs cs' : Array Value} {g : Nat} (x : Gd W b D T cs) (h : Blk W g T' cs') (h1 : g ≠ b) (h2 : ¬ D g) : Blk x.w g T' cs' := (x.h.block g h.lt h1 h2).trans h
section
variable {P : Program} {ops : Array Oper} {m : Nat} {E : List Nat}
variable {W : World} {b : Nat} {D : Nat → Prop} {T : TypeId} {cs : Array Value} {k : Nat} {o : Oper} {a : Act} {rest : List Oper} {F : World → Prop} {Q : Exit → Act → World → Prop}
abbrev Cq (P : Program) (ops : Array Oper) (W : World) (b : Nat) (D : Nat → Prop) (T : TypeId) (cs : Array Value) (E : List Nat) (m : Nat) (Q : Exit → Act → World → Prop) : Nat → List Oper → Kt :=
  wpChn P ops (fun w' => Cd W b D w') (fun w' => Blk w' b T cs) E m (fun F a' => ∀ w', Cd W b D w' → F w' → Q .normal a' w')
theorem wp_region_chd (b : Nat) (D : Nat → Prop) (T : TypeId) (cs : Array Value) (m : Nat) {Q : Exit → Act → World → Prop} {a : Act} {id : Nat} {w : World} {l : List Oper} (hm : P.follows .mixedOrders = true) (hB : Region.lexB .any l.toArray = true) (hI : okC .any (early .any l m) m 0 l = true) (hEm : (early .any l m).all (fun x => decide (x ≤ m)) = true) (hZ : Blk w b T cs)
    (h : Cq P l.toArray w b D T cs (early .any l m) m Q 0 l (fun w' => w' = w.drew) a) : (Code.region id l.toArray true).wp P Q a w := by
  simp only [Region.lexB, Bool.and_eq_true] at hB
  have hA : Anti (fun F a' => ∀ w', Cd w b D w' → F w' → Q .normal a' w') := fun F F' a hF h w' hC hF' => h w' hC (hF w' hF')
  have hCd : Cd w b D w.drew := (Cd.refl w b D).nx (rf w).drew
  have hcl0 : Closed .any l.toArray (Array.replicate l.length false) := fun x ox hx hl => absurd hl (getD_rep (by simpa using (Array.getElem?_eq_some_iff.1 hx).1))
  refine wp_region_any hm (wpAny_of_chn (C := fun w' => Cd w b D w') (Z := fun w' => Blk w' b T cs) (E := early .any l m) (m := m) (Q := fun F a' => ∀ w', Cd w b D w' → F w' → Q .normal a' w') (fun F a w hC hF h => h w hC hF) (early_ok l) _ _ (fun w' => w' = w.drew) _ _ hCd rfl ?_ (fun _ => hZ.nx (rf w).drew) ?_)
  · simpa using hcl0
  have := wpAnyC_lex (P := P) (C := fun w' => Cd w b D w') (Z := fun w' => Blk w' b T cs) (E := early .any l m) (m := m) (md := .any) hA hB.1 (early_ok l) (fun x hx => of_decide_eq_true (List.all_eq_true.1 hEm x hx)) l 0 (Array.replicate l.length false) (fun w' => w' = w.drew) a (fun j => by simp) hI hcl0 (fun j hj => by omega) ⟨w.drew, hCd, rfl, fun _ => hZ.nx (rf w).drew⟩ (by simpa using hB.2) h
  simpa using this
theorem chd_nil (h : ∀ w', Cd W b D w' → F w' → Q .normal a w') : Cq P ops W b D T cs E m Q k [] F a := h
theorem chd_early (hw : Region.wanted o (yielded ops a.tmps) = true) (hp : pureOp o = true) (hk : E.contains k = true) (h : ∀ K : Act → Prop, (∀ a, Cq P ops W b D T cs E m Q (k + 1) rest F a → K a) → o.quiet P a (fun w' => ∃ x : Gd W b D T cs, w' = x.w) K) : Cq P ops W b D T cs E m Q k (o :: rest) F a := by
  unfold Cq wpChn
  rw [if_pos hw, if_pos hp]
  obtain ⟨v, h1, h2⟩ := h _ (fun _ h => h)
  refine ⟨v, fun w hD => ?_, h2⟩
  have h3 := h1 w ⟨⟨w, hD.1, hD.2 (by simpa using hk)⟩, rfl⟩
  unfold Oper.quietAt at h3
  cases hr : (execOp a.eval o).run P w with
  | ok n w' =>
    rw [hr] at h3
    rcases inert_run (pure_inert hp) hr with ⟨x, rfl⟩ | rfl
    · exact h3
    · exact h3
  | halt x w' => rw [hr] at h3; exact h3
-- a step of the chain: from the world w1 to the world w2
theorem chd_one (w1 w2 : World) (v : Value) (hw : Region.wanted o (yielded ops a.tmps) = true) (hp : pureOp o = false) (hrun : (execOp a.eval o).run P w1 = .ok (.value v) w2 ∨ ((execOp a.eval o).run P w1 = .ok .skip w2 ∧ v = undef)) (hC : Cd W b D w1 → Cd W b D w2) (hz : k ≠ m → Blk w1 b T cs → Blk w2 b T cs)
    (h : Cq P ops W b D T cs E m Q (k + 1) rest (fun w' => w' = w2) (a.put o.dst v)) : Cq P ops W b D T cs E m Q k (o :: rest) (fun w' => w' = w1) a := by
  unfold Cq wpChn
  rw [if_pos hw, if_neg (by rw [hp]; decide)]
  refine ⟨fun v' w' => v' = v ∧ w' = w2, fun w hD hf => ?_, fun v' hv => ?_⟩
  · subst hf
    exact ⟨v, w2, hrun, hC hD.1, hz, rfl, rfl⟩
  · obtain ⟨w, _, _, hv1, _⟩ := hv
    subst hv1
    have e : (fun w' : World => w' = w2) = (fun w' => v' = v' ∧ w' = w2) := by funext w'; simp
    rw [e] at h
    exact h
theorem chd_lit (w1 : World) (ob : Obj) (v : Value) (hw : Region.wanted o (yielded ops a.tmps) = true) (hp : pureOp o = false) (hrun : (execOp a.eval o).run P w1 = .ok (.value v) (w1.alloc ob))
    (h : Cq P ops W b D T cs E m Q (k + 1) rest (fun w' => w' = w1.alloc ob) (a.put o.dst v)) : Cq P ops W b D T cs E m Q k (o :: rest) (fun w' => w' = w1) a :=
  chd_one w1 _ v hw hp (.inl hrun) (fun h => h.nx (al (rf w1) ob)) (fun _ h => h.nx (al (rf w1) ob)) h
theorem chd_app {TS e : TypeId} {size bytes : Nat} {z : Value} (S : SliceTy P TS e size bytes z) (w1 : World) (hw : Region.wanted o (yielded ops a.tmps) = true) (s x : Operand)
    (ho : o.op = .call { callee := .builtin .append, args := #[s, x], argTypes := #[TS, TS] })
    (base : Nat) (v : Value) (n : Nat) (xs : List Value) (hs : a.eval s = v) (hown : w1.ownsRow base e size v n xs) (hD : ∀ i, v.ownBlock = some i → D i ∨ W.heap.size ≤ i) (hne : v.ownBlock ≠ some b)
    (A : Option Addr) (j c : Nat) (news : List Value) (hx : a.eval x = .slice A j c) (hr : Reads w1 w1.heap.size size A j news) (h1 : ∀ u ∈ news, u.oneCell' = true) (hlen : n + j ≤ 140737488355328) (hbytes : (n + j) * bytes ≤ 140737488355328) (hbase : base ≤ w1.heap.size)
    (h : ∀ (v' : Value) (w2 : World), w2.ownsRow base e size v' (n + j) (xs ++ news) → w1.grownBy w2 v.ownBlock → (v'.ownBlock = v.ownBlock ∨ v'.ownBlock = some w1.heap.size) → Below base w1 w2 → Cq P ops W b D T cs E m Q (k + 1) rest (fun w' => w' = w2) (a.put o.dst v')) : Cq P ops W b D T cs E m Q k (o :: rest) (fun w' => w' = w1) a := by
  obtain ⟨i, hi, hz0, hz1, hz2⟩ := info_parts S.hi
  obtain ⟨v', w2, hrun, h2, h3, h4⟩ := run_append_any (P := P) w1 base TS o.type e i z size bytes S.ht hi hz0 hz1 hz2 S.hz S.hs v n xs hown w1.heap.size A j c news hr h1 (by unfold maxLen; omega) hbytes hbase
  refine chd_one w1 w2 v' hw (by unfold pureOp; rw [ho]) (.inl ?_) (fun hC => ?_) (fun _ hz => hz.grown h3 (fun e => hne e.symm)) (h v' w2 h2 h3 h4 ((Below.refl _ _).grown h3 hbase (fun k hk => (hown.lt k hk).1)))
  · unfold execOp
    simp only [ho, resolve, invoke, builtin, Sem.run_bind, Sem.run_pure, Result.andThen_ok, List.map_toArray, List.map_cons, List.map_nil, hs, hx, hrun]
  · exact ⟨h3.os.trans hC.os, h3.tape.trans hC.tape, h3.output.trans hC.output, Nat.le_trans hC.size h3.size, fun i hi hib hDi => (h3.block i (Nat.lt_of_lt_of_le hi hC.size) (fun e => by
      rcases hD i e.symm with h5 | h5
      · exact hDi h5
      · omega)).trans (hC.block i hi hib hDi)⟩
theorem chd_store (w1 : World) (hw : Region.wanted o (yielded ops a.tmps) = true) (ty : TypeId) (x y : Operand) (ho : o.op = .store ty x y) (hkm : k = m) (off : Nat) (u : Value)
    (hx : a.eval x = .pointer (some ⟨b, off, none⟩)) (hy : a.eval y = u) (hrun : (Instr.storeAt ty (.pointer (some ⟨b, off, none⟩)) u).run P w1 = .ok () (w1.setCell ⟨b, off, none⟩ u))
    (h : Cq P ops W b D T cs E m Q (k + 1) rest (fun w' => w' = w1.setCell ⟨b, off, none⟩ u) (a.put o.dst undef)) : Cq P ops W b D T cs E m Q k (o :: rest) (fun w' => w' = w1) a := by
  refine chd_one w1 _ undef hw (by unfold pureOp; rw [ho]) (.inr ⟨?_, rfl⟩) (fun hC => ?_) (fun hne => absurd hkm hne) h
  · unfold execOp
    simp only [ho, hx, hy, Sem.run_bind, Sem.run_pure, hrun, Result.andThen_ok]
  · exact ⟨hC.os, hC.tape, hC.output, Nat.le_trans hC.size (by simp [World.setCell]), fun i hi hib hDi => (Below.heap_setCell w1 ⟨b, off, none⟩ u i hib).trans (hC.block i hi hib hDi)⟩
end
end Go.Proofs.YtpfkmmmlocmakaaDoor
