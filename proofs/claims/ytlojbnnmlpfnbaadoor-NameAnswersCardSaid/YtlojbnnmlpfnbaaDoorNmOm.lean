/-
  Names: a message as an argument, opened whole, with the reach of every length in it.
-/
import Derived.Test.YtlojbnnmlpfnbaaDoorNmWr
import Derived.Test.YtlojbnnmlpfnbaaDoorOpen
import Derived.Test.YtlojbnnmlpfnbaaDoorOpn
import Derived.SizedLaws
set_option linter.unusedVariables false
namespace Go.Proofs.YtlojbnnmlpfnbaaDoor
open Go.ChangeShapes Go.WideShapes Go.ChangeAt Go.RowKit
set_option maxRecDepth 100000

def DatL {H : Type} (d : DataW H) (l : List UInt8) : Prop := (d = .nil ∧ l = []) ∨ ∃ es sp, d = .slice es sp ∧ es.length = l.length
theorem trod_bytes3 {H : Type} {enc : TypeId × Value → H} {w : World} {base : Nat} {sp : Nat → Bool} {held : Bool} {fuel : Nat} {cs : List Value} {x : DataW H × List MemPlace}
    (h : DataW.trod enc Tryd.prog w base sp held fuel 22 cs = some x) : ∃ A l c, cs = [.slice A l.length c] ∧ Bytes w A l ∧ l.length ≤ maxLen ∧ l.length ≤ c ∧ DatL x.1 l := by
  obtain ⟨A, l, c, rfl, hb, hl, hc⟩ := trod_bytes2 h
  refine ⟨A, l, c, rfl, hb, hl, hc, ?_⟩
  rcases open_ints Tryd.underlying22 Tryd.underlying5 (by kernel_rfl) h with ⟨h1, rfl⟩ | ⟨a, len, cap, zs, h1, _, h2, hm, hz, rfl, _, _⟩
  · injection h1 with h1 _; injection h1 with _ h1 _
    exact .inl ⟨rfl, List.eq_nil_of_length_eq_zero h1⟩
  · injection h1 with h1 _; injection h1 with _ h1 _
    refine .inr ⟨_, _, rfl, ?_⟩
    have hlz : len ≤ zs.length := by rw [hz]; split <;> omega
    simp [lits, List.length_take]; omega
theorem datL_w {H : Type} {d : DataW H} {l : List UInt8} (hd : DatL d l) : l = [] ∨ ∃ n ∈ d.weights Tryd.prog 22, l.length ≤ n := by
  rcases hd with ⟨_, rfl⟩ | ⟨es, sp, rfl, h⟩
  · exact .inl rfl
  · refine .inr ⟨(es.length + sp.length) * Tryd.prog.bytesOf 5, by simp [DataW.weights, Tryd.underlying22], ?_⟩
    have : Tryd.prog.bytesOf 5 = 1 := by kernel_rfl
    rw [this]; omega
theorem wAll_mem {H : Type} {P : Program} {e : TypeId} : ∀ {l : List (DataW H)} {d : DataW H}, d ∈ l → ∀ n ∈ d.weights P e, n ∈ DataW.weightsAll P e l
  | d' :: r, d, hd, n, hn => by
    simp only [DataW.weightsAll, List.mem_append]
    rcases List.mem_cons.1 hd with rfl | h
    · exact Or.inl hn
    · exact Or.inr (wAll_mem h n hn)
-- a slice of structs with the reach of what it holds
theorem rows_w {H : Type} {enc : TypeId × Value → H} {P : Program} {w : World} {base : Nat} {sp : Nat → Bool} {held : Bool} {t e : TypeId} {size fuel N : Nat} {cs : List Value} {x : DataW H × List MemPlace} (ht : P.underlying t = some (.slice e)) (hsz : P.cellsOf e = size) (hpos : 0 < size) (hby : 0 < P.bytesOf e)
    (h : DataW.trod enc P w base sp held fuel t cs = some x) (hN : ∀ n ∈ x.1.weights P t, n ≤ N) (Q : List Value → Prop)
    (hQ : ∀ n cs y, cs.length = size → DataW.trod enc P w base sp held n e cs = some y → (∀ m ∈ y.1.weights P e, m ≤ N) → Q cs) :
    ∃ (A : Option Addr) (n c : Nat) (l : List (List Value)), cs = [.slice A n c] ∧ n ≤ N ∧ RowsAt w w.heap.size size A n l ∧ ∀ r ∈ l, Q r := by
  rcases Go.Deep.open_slice ht h with ⟨rfl, _⟩ | ⟨a, len, cap, m, n, D, Pl, rfl, hb, hl, hm, hmm, hx, hi⟩
  · exact ⟨none, 0, 0, [], rfl, by omega, ⟨rfl, by simp, fun h => absurd h (by omega)⟩, by simp⟩
  · have hle : len ≤ m := by rw [hmm]; split <;> omega
    rw [hx] at hN
    have hlen : len ≤ N := by
      have := hN _ (show (((List.range len).map D).length + ((List.range (m - len)).map fun j => D (len + j)).length) * P.bytesOf e ∈ _ by simp [DataW.weights, ht])
      simp only [List.length_map, List.length_range] at this
      have h2 : len + (m - len) ≤ (len + (m - len)) * P.bytesOf e := Nat.le_mul_of_pos_right _ hby
      omega
    have hD : ∀ i, i < len → ∀ k ∈ (D i).weights P e, k ≤ N := fun i hil k hk => hN k (by
      simp only [DataW.weights, ht, List.mem_cons, List.mem_append]
      exact .inr (.inl (wAll_mem (List.mem_map.2 ⟨i, List.mem_range.2 hil, rfl⟩) k hk)))
    have key : ∀ i, i < len → ∃ cs : List Value, (cs.length = size ∧ Q cs) ∧ ∀ j u, cs[j]? = some u → w.cell? (a.add (i * size + j)) = some u := by
      intro i hil
      obtain ⟨cs', hc, ht'⟩ := hi i (by omega)
      rw [hsz] at hc
      obtain ⟨_, hcl, hat⟩ := World.cells?_some hc
      refine ⟨cs', ⟨hcl, hQ n cs' _ hcl ht' (hD i hil)⟩, fun j u hu => ?_⟩
      have hj : j < size := by rw [← hcl]; exact (List.getElem?_eq_some_iff.1 hu).1
      rw [← Go.Deep.add_add, hat j hj, hu]
    obtain ⟨f, hff⟩ := Go.Deep.choose_lt (α := List Value) key
    refine ⟨some a, len, cap, (List.range len).map f, rfl, hlen, ⟨by simp, ?_, fun hn => ⟨a, rfl, ?_, ?_⟩⟩, ?_⟩
    · intro r hr
      obtain ⟨i, hi', rfl⟩ := List.mem_map.1 hr
      exact (hff i (List.mem_range.1 hi')).1.1
    · have h1 := hff 0 hn
      have h2 : (f 0)[0]? = some ((f 0)[0]'(by rw [h1.1.1]; exact hpos)) := List.getElem?_eq_getElem _
      have h3 := block_lt_of_cell (h1.2 0 _ h2)
      rwa [block_of_add] at h3
    · intro i r hr j u hu
      rw [List.getElem?_map] at hr
      by_cases hil : i < len
      · rw [List.getElem?_range hil] at hr
        simp only [Option.map_some, Option.some.injEq] at hr
        subst hr
        exact (hff i hil).2 j u hu
      · rw [List.getElem?_eq_none (by simpa using Nat.le_of_not_lt hil)] at hr
        cases hr
    · intro r hr
      obtain ⟨i, hi', rfl⟩ := List.mem_map.1 hr
      exact (hff i (List.mem_range.1 hi')).1.2
structure AnyR (w : World) (r : Rc) : Prop where
  by_ : Bytes w r.A r.da
  dk : r.da.length ≤ r.k
  dl : r.da.length ≤ 140737488355328
  nl : r.nm.size ≤ 140737488355328
structure AnyM (w : World) (m : Ms) : Prop where
  q : RowsAt w w.heap.size 5 m.Q m.q.length (m.q.map Rc.cs)
  a : RowsAt w w.heap.size 5 m.A m.a.length (m.a.map Rc.cs)
  qr : ∀ r ∈ m.q, AnyR w r
  ar : ∀ r ∈ m.a, AnyR w r
  ql : m.q.length ≤ 140737488355328
  al : m.a.length ≤ 140737488355328
theorem AnyR.nx {w w' : World} {r : Rc} (h : AnyR w r) (k : Below w.heap.size w w') : AnyR w' r := ⟨h.1.nx k, h.2, h.3, h.4⟩
theorem AnyM.nx {w w' : World} {m : Ms} (h : AnyM w m) (k : Below w.heap.size w w') : AnyM w' m :=
  ⟨h.q.nx k, h.a.nx k, fun r hr => (h.qr r hr).nx k, fun r hr => (h.ar r hr).nx k, h.ql, h.al⟩
theorem AnyM.is {w : World} {m : Ms} (h : AnyM w m) (ql : m.q.length ≤ 3000) (al : m.a.length ≤ 3000) (hq : ∀ r ∈ m.q, r.nm.size ≤ 3000 ∧ r.da.length ≤ 3000) (ha : ∀ r ∈ m.a, r.nm.size ≤ 3000 ∧ r.da.length ≤ 3000) : IsM w m :=
  ⟨h.q, h.a, fun r hr => ⟨(h.qr r hr).1, (h.qr r hr).2, (hq r hr).2, (hq r hr).1⟩, fun r hr => ⟨(h.ar r hr).1, (h.ar r hr).2, (ha r hr).2, (ha r hr).1⟩, ql, al⟩
theorem open_rc {H : Type} {enc : TypeId × Value → H} {w : World} {base : Nat} {sp : Nat → Bool} {held : Bool} {fuel : Nat} {cs : List Value} {y : DataW H × List MemPlace} (hl : cs.length = 5)
    (h : DataW.trod enc Tryd.prog w base sp held fuel 43 cs = some y) (hN : ∀ m ∈ y.1.weights Tryd.prog 43, m ≤ reachBytes) : ∃ r : Rc, cs = r.cs ∧ AnyR w r := by
  obtain ⟨xs, n, _, hx, hcl, hxl, hg⟩ := DataW.trod_struct Tryd.underlying43 h
  rw [hx] at hN
  have hr := reachBytes_lt
  have c22 : Tryd.prog.cellsOf 22 = 1 := by kernel_rfl
  have c3 : Tryd.prog.cellsOf 3 = 1 := by kernel_rfl
  have c9 : Tryd.prog.cellsOf 9 = 1 := by kernel_rfl
  have g0 := hg 0 _ rfl
  have g1 := hg 1 _ rfl
  have g2 := hg 2 _ rfl
  have g3 := hg 3 _ rfl
  have g4 := hg 4 _ rfl
  rw [List.getElem?_eq_getElem (show 0 < xs.length by rw [hxl]; decide)] at g0
  rw [List.getElem?_eq_getElem (show 1 < xs.length by rw [hxl]; decide)] at g1
  rw [List.getElem?_eq_getElem (show 2 < xs.length by rw [hxl]; decide)] at g2
  rw [List.getElem?_eq_getElem (show 3 < xs.length by rw [hxl]; decide)] at g3
  rw [List.getElem?_eq_getElem (show 4 < xs.length by rw [hxl]; decide)] at g4
  have W0 : ∀ m ∈ (xs[0]'(by rw [hxl]; decide)).1.weights Tryd.prog 9, m ≤ reachBytes := fun m hm => hN m (by
    simp only [DataW.weights, Tryd.underlying43]
    exact DataW.weights_mem_each (j := 0) (t := 9) (d := (xs[0]'(by rw [hxl]; decide)).1) rfl (by rw [List.getElem?_map, List.getElem?_eq_getElem (show 0 < xs.length by rw [hxl]; decide)]; rfl) m hm)
  have W4 : ∀ m ∈ (xs[4]'(by rw [hxl]; decide)).1.weights Tryd.prog 22, m ≤ reachBytes := fun m hm => hN m (by
    simp only [DataW.weights, Tryd.underlying43]
    exact DataW.weights_mem_each (j := 4) (t := 22) (d := (xs[4]'(by rw [hxl]; decide)).1) rfl (by rw [List.getElem?_map, List.getElem?_eq_getElem (show 4 < xs.length by rw [hxl]; decide)]; rfl) m hm)
  match cs, hl with
  | [x0, x1, x2, x3, x4], _ =>
    obtain ⟨s, h0, hx0, hs0⟩ := DataW.trod_string Tryd.underlying9 g0
    obtain ⟨a1, h1, _, _⟩ := DataW.trod_int Tryd.underlying3 g1
    obtain ⟨a2, h2, _, _⟩ := DataW.trod_int Tryd.underlying3 g2
    obtain ⟨a3, h3, _, _⟩ := DataW.trod_int Tryd.underlying3 g3
    obtain ⟨A', l', c', h4, hb, hl', hlc, hd⟩ := trod_bytes3 g4
    simp [c9] at h0
    simp [c3] at h1 h2 h3
    simp [c22] at h4
    subst h0 h1 h2 h3 h4
    refine ⟨⟨s, a1, a2, a3, l', A', c'⟩, rfl, hb, hlc, ?_, ?_⟩
    · show l'.length ≤ _
      rcases datL_w hd with h5 | ⟨m, hm, hle⟩
      · rw [h5]; simp
      · have := W4 m hm
        omega
    · show s.size ≤ _
      rw [hx0] at W0
      have := W0 s.data.toList.length (by unfold DataW.weights; exact List.mem_singleton.2 rfl)
      have e : s.data.toList.length = s.size := Array.length_toList
      omega
theorem rcs_of {w : World} : ∀ {l : List (List Value)}, (∀ c ∈ l, ∃ r : Rc, c = r.cs ∧ AnyR w r) → ∃ q : List Rc, l = q.map Rc.cs ∧ ∀ r ∈ q, AnyR w r
  | [], _ => ⟨[], rfl, by simp⟩
  | c :: l, h => by
    obtain ⟨r, rfl, hr⟩ := h c (List.mem_cons_self ..)
    obtain ⟨q, rfl, hq⟩ := rcs_of (l := l) fun c hc => h c (List.mem_cons_of_mem _ hc)
    exact ⟨r :: q, rfl, by intro r' h'; rcases List.mem_cons.1 h' with e | h'; (rw [e]; exact hr); exact hq r' h'⟩
theorem open_msg {H : Type} {enc : TypeId × Value → H} {w : World} {base b0 : Nat} {r : Reach} {sp : Nat → Bool} {held : Bool} {v : Value} {d : DataW H} {p : List MemPlace}
    (hv : Value.okWide Tryd.prog w r b0 36 v) (h : DataW.Trod enc Tryd.prog w base sp held 36 v d p) (hN : ∀ m ∈ d.weights Tryd.prog 36, m ≤ reachBytes) :
    ∃ M : Ms, v = .agg #[.int .i64 M.id, .int .i64 M.fl, .slice M.Q M.q.length M.n, .slice M.A M.a.length M.m] ∧ AnyM w M := by
  obtain ⟨cs, rfl, hsz⟩ := okWide_struct Tryd.underlying36 hv
  obtain ⟨fuel, hf⟩ := h
  obtain ⟨xs, n, _, hx, hcl, hxl, hg⟩ := DataW.trod_struct Tryd.underlying36 hf
  injection hx with hx1 hx2
  subst hx1
  have hr := reachBytes_lt
  have c36 : Tryd.prog.cellsOf 36 = 4 := by kernel_rfl
  have c34 : Tryd.prog.cellsOf 34 = 1 := by kernel_rfl
  have c3 : Tryd.prog.cellsOf 3 = 1 := by kernel_rfl
  have g0 := hg 0 _ rfl
  have g1 := hg 1 _ rfl
  have g2 := hg 2 _ rfl
  have g3 := hg 3 _ rfl
  rw [List.getElem?_eq_getElem (show 0 < xs.length by rw [hxl]; decide)] at g0
  rw [List.getElem?_eq_getElem (show 1 < xs.length by rw [hxl]; decide)] at g1
  rw [List.getElem?_eq_getElem (show 2 < xs.length by rw [hxl]; decide)] at g2
  rw [List.getElem?_eq_getElem (show 3 < xs.length by rw [hxl]; decide)] at g3
  have W2 : ∀ m ∈ (xs[2]'(by rw [hxl]; decide)).1.weights Tryd.prog 34, m ≤ reachBytes := fun m hm => hN m (by
    simp only [DataW.weights, Tryd.underlying36]
    exact DataW.weights_mem_each (j := 2) (t := 34) (d := (xs[2]'(by rw [hxl]; decide)).1) rfl (by rw [List.getElem?_map, List.getElem?_eq_getElem (show 2 < xs.length by rw [hxl]; decide)]; rfl) m hm)
  have W3 : ∀ m ∈ (xs[3]'(by rw [hxl]; decide)).1.weights Tryd.prog 34, m ≤ reachBytes := fun m hm => hN m (by
    simp only [DataW.weights, Tryd.underlying36]
    exact DataW.weights_mem_each (j := 3) (t := 34) (d := (xs[3]'(by rw [hxl]; decide)).1) rfl (by rw [List.getElem?_map, List.getElem?_eq_getElem (show 3 < xs.length by rw [hxl]; decide)]; rfl) m hm)
  obtain ⟨l⟩ := cs
  rw [c36] at hsz
  match l, hsz with
  | [x0, x1, x2, x3], _ =>
    simp only [Value.cells] at g0 g1 g2 g3
    obtain ⟨a0, h0, _, _⟩ := DataW.trod_int Tryd.underlying3 g0
    obtain ⟨a1, h1, _, _⟩ := DataW.trod_int Tryd.underlying3 g1
    obtain ⟨A2, n2, k2, l2, h2, hn2, hr2, hq2⟩ := rows_w Tryd.underlying34 (by kernel_rfl) (by decide) (by decide +kernel) g2 W2 (fun c => ∃ r : Rc, c = r.cs ∧ AnyR w r) fun n cs y hl ht hw => open_rc hl ht hw
    obtain ⟨A3, n3, k3, l3, h3, hn3, hr3, hq3⟩ := rows_w Tryd.underlying34 (by kernel_rfl) (by decide) (by decide +kernel) g3 W3 (fun c => ∃ r : Rc, c = r.cs ∧ AnyR w r) fun n cs y hl ht hw => open_rc hl ht hw
    simp [c3] at h0 h1
    simp [c34] at h2 h3
    subst h0 h1 h2 h3
    obtain ⟨q, rfl, hq⟩ := rcs_of hq2
    obtain ⟨a, rfl, ha⟩ := rcs_of hq3
    have e2 : n2 = q.length := by have := hr2.1; simpa using this.symm
    have e3 : n3 = a.length := by have := hr3.1; simpa using this.symm
    subst e2 e3
    exact ⟨⟨a0, a1, q, a, A2, A3, k2, k3⟩, rfl, hr2, hr3, hq, ha, by show q.length ≤ _; omega, by show a.length ≤ _; omega⟩
end Go.Proofs.YtlojbnnmlpfnbaaDoor
