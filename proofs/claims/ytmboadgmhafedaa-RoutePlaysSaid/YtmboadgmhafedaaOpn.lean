/-
  Arguments opened cell by cell, whatever structs and arrays they are made of; slices of such.
-/
import Derived.Test.YtmboadgmhafedaaLaw
import Derived.Deep.Slices
set_option linter.unusedVariables false
namespace Go.Proofs.Ytmboadgmhafedaa
open Go.ChangeShapes Go.WideShapes Go.ChangeAt Go.RowKit

inductive Kd where
  | int (k : IntKind)
  | bool
  | other (t : TypeId)
section
variable {H : Type} {enc : TypeId × Value → H} {P : Program} {w : World} {base : Nat} {sp : Nat → Bool} {held : Bool}
def Kd.of (enc : TypeId × Value → H) (P : Program) (w : World) (base : Nat) (sp : Nat → Bool) (held : Bool) : Kd → Value → Prop
  | .int k, v => ∃ a, v = .int k a ∧ (Lit.int k a).wf = true
  | .bool, v => ∃ b, v = .bool b
  | .other t, v => ∃ fuel y, DataW.trod enc P w base sp held fuel t [v] = some y
def leaf (P : Program) : Nat → TypeId → Nat → Option Kd
  | 0, _, _ => none
  | F + 1, t, i => match P.underlying t with
    | some (.int k) => if i = 0 then some (.int k) else none
    | some .bool => if i = 0 then some .bool else none
    | some (.struct fs) => match (List.range fs.size).find? (fun j => match fs[j]? with | some f => decide (f.offset ≤ i) && decide (i < f.offset + P.cellsOf f.type) | none => false) with
      | some j => match fs[j]? with
        | some f => leaf P F f.type (i - f.offset)
        | none => none
      | none => none
    | some (.array n e) => if i < n * P.cellsOf e then leaf P F e (i % P.cellsOf e) else none
    | some (.slice _) => if i = 0 then some (.other t) else none
    | some .string => if i = 0 then some (.other t) else none
    | _ => none
theorem trod_bool {t : TypeId} {fuel : Nat} {cs : List Value} {x : DataW H × List MemPlace} (ht : P.underlying t = some .bool) (h : DataW.trod enc P w base sp held fuel t cs = some x) : ∃ b, cs = [.bool b] := by
  cases fuel with
  | zero => simp [DataW.trod] at h
  | succ n =>
    unfold DataW.trod at h
    rw [ht] at h
    split at h <;> simp_all
theorem trod_slice_one {t e : TypeId} {fuel : Nat} {cs : List Value} {x : DataW H × List MemPlace} (ht : P.underlying t = some (.slice e)) (h : DataW.trod enc P w base sp held fuel t cs = some x) : ∃ v, cs = [v] := by
  rcases DataW.trod_slice ht h with ⟨h, _⟩ | ⟨_, _, _, _, _, _, _, h, _⟩
  · exact ⟨_, h⟩
  · exact ⟨_, h⟩
theorem leaf_of : ∀ (F : Nat) (t : TypeId) (fuel : Nat) (cs : List Value) (x : DataW H × List MemPlace) (i : Nat) (k : Kd),
    DataW.trod enc P w base sp held fuel t cs = some x → leaf P F t i = some k → ∃ v, cs[i]? = some v ∧ k.of enc P w base sp held v
  | 0, _, _, _, _, _, _, _, h => by simp [leaf] at h
  | F + 1, t, fuel, cs, x, i, k, hx, h => by
    unfold leaf at h
    split at h
    · rename_i k' ht
      split at h
      · rename_i hi
        obtain ⟨n, rfl, _, hw⟩ := DataW.trod_int ht hx
        injection h with h
        subst h hi
        exact ⟨_, rfl, n, rfl, hw⟩
      · cases h
    · rename_i ht
      split at h
      · rename_i hi
        obtain ⟨b, rfl⟩ := trod_bool ht hx
        injection h with h
        subst h hi
        exact ⟨_, rfl, b, rfl⟩
      · cases h
    · rename_i fs ht
      obtain ⟨xs, n, _, _, hcl, hxl, hg⟩ := DataW.trod_struct ht hx
      split at h
      · rename_i j hj
        split at h
        · rename_i f hf
          have hp := List.find?_some hj
          simp only [hf, Bool.and_eq_true, decide_eq_true_eq] at hp
          have h1 := hg j f hf
          have hjl : j < xs.length := by rw [hxl]; exact (Array.getElem?_eq_some_iff.1 hf).1
          rw [List.getElem?_eq_getElem hjl] at h1
          obtain ⟨v, hv, hk⟩ := leaf_of F f.type n _ _ _ k h1 h
          refine ⟨v, ?_, hk⟩
          rw [List.getElem?_take_of_lt (by omega), List.getElem?_drop] at hv
          rw [← hv]; congr 1; omega
        · cases h
      · cases h
    · rename_i n e ht
      split at h
      · rename_i hi
        obtain ⟨ys, m, _, _, hl, hy, hg⟩ := DataW.trod_array ht hx
        have hpos : 0 < P.cellsOf e := by
          rcases Nat.eq_zero_or_pos (P.cellsOf e) with h0 | h0
          · rw [h0] at hi; simp at hi
          · exact h0
        have hq : i / P.cellsOf e < n := by rw [Nat.div_lt_iff_lt_mul hpos]; exact hi
        have h1 := hg (i / P.cellsOf e) hq
        rw [List.getElem?_eq_getElem (by omega)] at h1
        obtain ⟨v, hv, hk⟩ := leaf_of F e _ _ _ _ k h1 h
        refine ⟨v, ?_, hk⟩
        rw [List.getElem?_take_of_lt (Nat.mod_lt _ hpos), List.getElem?_drop, Nat.mul_comm, Nat.div_add_mod] at hv
        exact hv
      · cases h
    · rename_i e ht
      split at h
      · rename_i hi
        obtain ⟨v, rfl⟩ := trod_slice_one ht hx
        injection h with h
        subst h hi
        exact ⟨_, rfl, fuel, x, hx⟩
      · cases h
    · rename_i ht
      split at h
      · rename_i hi
        obtain ⟨s, rfl, _⟩ := DataW.trod_string ht hx
        injection h with h
        subst h hi
        exact ⟨_, rfl, fuel, x, hx⟩
      · cases h
    · cases h
theorem leaves_of {F N : Nat} {t : TypeId} {fuel : Nat} {cs : List Value} {x : DataW H × List MemPlace} {ks : List Kd} (hx : DataW.trod enc P w base sp held fuel t cs = some x)
    (hk : (List.range N).map (leaf P F t) = ks.map some) : ∀ (i : Nat) (k : Kd), ks[i]? = some k → ∃ v, cs[i]? = some v ∧ k.of enc P w base sp held v := by
  intro i k hi
  have hl : ks.length = N := by have := congrArg List.length hk; simpa using this.symm
  have hiN : i < N := by rw [← hl]; exact (List.getElem?_eq_some_iff.1 hi).1
  have h2 := congrArg (fun l => l[i]?) hk
  simp only [List.getElem?_map, List.getElem?_range hiN, Option.map_some, hi] at h2
  exact leaf_of F t fuel cs x i k hx (by injection h2)

-- slices of structs: rows of cells
def RowsAt (w : World) (B size : Nat) (A : Option Addr) (n : Nat) (l : List (List Value)) : Prop :=
  l.length = n ∧ (∀ r ∈ l, r.length = size) ∧ (0 < n → ∃ ad, A = some ad ∧ ad.block < B ∧ ∀ i r, l[i]? = some r → ∀ j u, r[j]? = some u → w.cell? (ad.add (i * size + j)) = some u)
theorem RowsAt.keep {B size n : Nat} {A : Option Addr} {l : List (List Value)} {w w' : World} (h : RowsAt w B size A n l) (hk : ∀ p : Addr, p.block < B → w'.cell? p = w.cell? p) : RowsAt w' B size A n l :=
  ⟨h.1, h.2.1, fun hn => by
    obtain ⟨ad, e, hb, hc⟩ := h.2.2 hn
    exact ⟨ad, e, hb, fun i r hr j u hu => (hk _ (by rw [block_of_add]; exact hb)).trans (hc i r hr j u hu)⟩⟩
theorem RowsAt.below {B size n : Nat} {A : Option Addr} {l : List (List Value)} {w w' : World} (h : RowsAt w B size A n l) (hb : Below B w w') : RowsAt w' B size A n l := h.keep fun _ hp => hb.cell hp
theorem open_rows {r : Reach} {b0 : Nat} {t e : TypeId} {size : Nat} {v : Value} {d : DataW H} {p : List MemPlace} (ht : P.underlying t = some (.slice e)) (hsz : P.cellsOf e = size) (hpos : 0 < size)
    (hv : Value.okWide P w r b0 t v) (h : DataW.Trod enc P w base sp held t v d p) (Q : List Value → Prop)
    (hQ : ∀ n cs y, cs.length = size → DataW.trod enc P w base sp held n e cs = some y → Q cs) :
    ∃ (A : Option Addr) (n c : Nat) (l : List (List Value)), v = .slice A n c ∧ n ≤ c ∧ c ≤ maxLen ∧ RowsAt w w.heap.size size A n l ∧ ∀ r ∈ l, Q r := by
  obtain ⟨A0, l0, c0, rfl⟩ := okWide_slice ht hv
  obtain ⟨fuel, hf⟩ := h
  rcases Go.Deep.open_slice ht hf with ⟨h0, _⟩ | ⟨a, len, cap, m, n, D, Pl, hcs, hb, hl, hm, hmm, hx, hi⟩
  · injection h0 with h0 _
    exact ⟨none, 0, 0, [], h0, Nat.le_refl _, by unfold maxLen; decide, ⟨rfl, by simp, fun h => absurd h (by omega)⟩, by simp⟩
  · injection hcs with h0 _
    have hle : len ≤ m := by rw [hmm]; split <;> omega
    have key : ∀ i, i < len → ∃ cs : List Value, (cs.length = size ∧ Q cs) ∧ ∀ j u, cs[j]? = some u → w.cell? (a.add (i * size + j)) = some u := by
      intro i hil
      obtain ⟨cs', hc, ht'⟩ := hi i (by omega)
      rw [hsz] at hc
      obtain ⟨_, hcl, hat⟩ := World.cells?_some hc
      refine ⟨cs', ⟨hcl, hQ n cs' _ hcl ht'⟩, fun j u hu => ?_⟩
      have hj : j < size := by rw [← hcl]; exact (List.getElem?_eq_some_iff.1 hu).1
      rw [← Go.Deep.add_add, hat j hj, hu]
    obtain ⟨f, hff⟩ := Go.Deep.choose_lt (α := List Value) key
    refine ⟨some a, len, cap, (List.range len).map f, h0, hl, hm, ⟨by simp, ?_, fun hn => ⟨a, rfl, ?_, ?_⟩⟩, ?_⟩
    · intro r hr
      obtain ⟨i, hi', rfl⟩ := List.mem_map.1 hr
      exact (hff i (List.mem_range.1 hi')).1.1
    · have h1 := hff 0 hn
      have h2 : (f 0)[0]? = some ((f 0)[0]'(by rw [h1.1.1]; exact hpos)) := List.getElem?_eq_getElem _
      have h3 := block_lt_of_cell (h1.2 0 _ h2)
      rwa [block_of_add] at h3
    · intro i r hr j u hu
      rw [List.getElem?_map] at hr
      by_cases hil : i < len
      · rw [List.getElem?_range hil] at hr
        simp only [Option.map_some, Option.some.injEq] at hr
        subst hr
        exact (hff i hil).2 j u hu
      · rw [List.getElem?_eq_none (by simpa using Nat.le_of_not_lt hil)] at hr
        cases hr
    · intro r hr
      obtain ⟨i, hi', rfl⟩ := List.mem_map.1 hr
      exact (hff i (List.mem_range.1 hi')).1.2
end

-- a row read at whatever address
section
variable {P : Program}
theorem run_loadAt_any (w : World) (ad : Addr) (ty : TypeId) (cs : List Value) (d : TypeDesc) (hc : ∀ j v, cs[j]? = some v → w.cell? (ad.add j) = some v)
    (hu : P.underlying ty = some d) (hd : d.isRow = true) (hi : (P.info? ty).map (·.size) = some cs.length) :
    (Instr.loadAt ty (.pointer (some ad))).run P w = .ok (.agg cs.toArray) w := by
  have hl : (loadCells ad cs.length).run P w = .ok cs.toArray w := run_loadCells_list (P := P) w ad cs hc
  cases hq : P.info? ty with
  | none => simp [hq] at hi
  | some i =>
    have hs : i.size = cs.length := by simpa [hq] using hi
    have hagg : (isAgg ty).run P w = .ok true w := by
      unfold isAgg
      rw [Sem.run_bind, run_underlying hu w]
      cases d <;> simp_all
    simp [Instr.loadAt, Instr.sureAddr, loadVar, Sem.run_bind, hagg, sizeOf, typeInfo, hq, hs, hl]
theorem wp_load_any {op : Oper} {a : Act} {w : World} {K : Act → World → Prop} {Q : Exit → Act → World → Prop} (ty : TypeId) (x : Operand) (ho : op.op = .load ty x)
    (ad : Addr) (hx : a.eval x = .pointer (some ad)) (cs : List Value) (d : TypeDesc) (hc : ∀ j v, cs[j]? = some v → w.cell? (ad.add j) = some v)
    (hu : P.underlying ty = some d) (hd : d.isRow = true) (hi : (P.info? ty).map (·.size) = some cs.length)
    (h : K (a.put op.dst (.agg cs.toArray)) w) : op.wp P a w K Q := by
  unfold Oper.wp execOp
  simp only [ho, hx, Sem.run_bind, Result.andThen_ok, run_loadAt_any w ad ty cs d hc hu hd hi]
  exact h
theorem wpList_load_any {ops : Array Oper} {rest : List Oper} {op : Oper} {a : Act} {w : World} {Q : Exit → Act → World → Prop} (hgd : op.guard = none) (ty : TypeId) (x : Operand) (ho : op.op = .load ty x)
    (ad : Addr) (hx : a.eval x = .pointer (some ad)) (cs : List Value) (d : TypeDesc) (hc : ∀ j v, cs[j]? = some v → w.cell? (ad.add j) = some v)
    (hu : P.underlying ty = some d) (hd : d.isRow = true) (hi : (P.info? ty).map (·.size) = some cs.length)
    (h : wpList P ops Q rest (a.put op.dst (.agg cs.toArray)) w) : wpList P ops Q (op :: rest) a w :=
  wpList_plain hgd fun _ hK => wp_load_any ty x ho ad hx cs d hc hu hd hi (hK _ _ h)
end
section
variable {P : Program} {ops : Array Oper} {C : World → Prop} {Q : Act → Prop} {o : Oper} {rest : List Oper} {a : Act}
theorem wpQuiet_load_row (hw : Region.wanted o (yielded ops a.tmps) = true) (ty : TypeId) (x : Operand) (ho : o.op = .load ty x) (ad : Addr) (hx : a.eval x = .pointer (some ad)) (cs : List Value) (d : TypeDesc)
    (hc : ∀ w, C w → ∀ j v, cs[j]? = some v → w.cell? (ad.add j) = some v) (hu : P.underlying ty = some d) (hd : d.isRow = true) (hi : (P.info? ty).map (·.size) = some cs.length)
    (h : ∀ K : Act → Prop, (∀ a, wpQuiet P ops C Q rest a → K a) → K (a.put o.dst (.agg cs.toArray))) : wpQuiet P ops C Q (o :: rest) a := by
  unfold wpQuiet
  rw [if_pos hw]
  refine ⟨_, fun w hC => ?_, h _ fun _ h => h⟩
  unfold Oper.quietAt execOp
  simp only [ho, hx, Sem.run_bind, Result.andThen_ok, run_loadAt_any w ad ty cs d (hc w hC) hu hd hi]
  exact ⟨rfl, rfl⟩
end
theorem RowsAt.row {w : World} {B size n : Nat} {A : Option Addr} {l : List (List Value)} (h : RowsAt w B size A n l) {i : Nat} (hi : i < n) :
    ∃ ad r, A = some ad ∧ ad.block < B ∧ l[i]? = some r ∧ r.length = size ∧ ∀ j u, r[j]? = some u → w.cell? ((ad.add (i * size)).add j) = some u := by
  obtain ⟨ad, e, hb, hc⟩ := h.2.2 (by omega)
  have hl : i < l.length := by rw [h.1]; exact hi
  refine ⟨ad, l[i], e, hb, List.getElem?_eq_getElem hl, h.2.1 _ (List.getElem_mem hl), fun j u hu => ?_⟩
  rw [add_of_add]
  exact hc i _ (List.getElem?_eq_getElem hl) j u hu
end Go.Proofs.Ytmboadgmhafedaa
