/-
  Names: the program's Decode of what its Encode writes, with anything behind it.
-/
import Derived.Test.YtpfkmmmlocmakaaDoorNmDh
import Derived.Deep.RegionLaw
set_option linter.unusedVariables false
namespace Go.Proofs.YtpfkmmmlocmakaaDoor
open Go.RowKit

def rcZ : Value := .agg #[.string ⟨#[]⟩, .int .i64 0, .int .i64 0, .int .i64 0, .slice none 0 0]
theorem stRc : SliceTy Tryd.prog 41 48 5 64 rcZ := ⟨Tryd.underlying41, by kernel_rfl, rfl, by omega⟩
theorem mok14 {m : Ms} (h : wrongI m = 0) : ∀ r ∈ m.a, r.t = 1 → r.da.length = 4 := by
  intro r hr ht
  unfold wrongI at h
  split at h
  · omega
  split at h
  · omega
  split at h
  · omega
  split at h
  · omega
  rename_i h3
  have h4 := any_f h3 r hr
  simp only [Bool.and_eq_false_iff, decide_eq_false_iff_not] at h4
  rcases h4 with h4 | h4
  · exact absurd ht h4
  · omega
-- a list's bytes up to a record, and behind it
theorem flat_split {α : Type} {l : List α} {f : α → List UInt8} {k : Nat} {r : α} (h : l[k]? = some r) : l.flatMap f = (l.take k).flatMap f ++ f r ++ (l.drop (k + 1)).flatMap f := by
  rw [take_flat h, ← List.flatMap_append, List.take_append_drop]
-- what Decode holds beside its reader
structure HD (w0 ws : World) (ga oa c : Nat) (l : List UInt8) : Prop where
  b : Blk ws w0.heap.size 34 #[.slice (some ⟨ga, oa, none⟩) l.length c]
  r : Blk ws (w0.heap.size + 1) 43 #[.int .i64 0, .int .i64 0, .slice none 0 0, .slice none 0 0]
  by_ : Bytes ws (some ⟨ga, oa, none⟩) l
  ty : RowTy ws (some ⟨ga, oa, none⟩)
  ga : ga < w0.heap.size
  be : Below w0.heap.size w0 ws
theorem HD.nx {w0 ws w' : World} {ga oa c : Nat} {l : List UInt8} (h : HD w0 ws ga oa c l) (k : Below ws.heap.size ws w') : HD w0 w' ga oa c l :=
  ⟨h.b.nx k, h.r.nx k, h.by_.nx k, h.ty.nx k, h.ga, h.be.trans (k.mono h.be.size)⟩
theorem HD.only {w0 ws w' : World} {ga oa c z : Nat} {l : List UInt8} (h : HD w0 ws ga oa c l) (k : ws.grownBy w' (some z)) (hz : w0.heap.size + 1 < z) : HD w0 w' ga oa c l := by
  have hg := h.ga
  refine ⟨h.b.only k (by omega), h.r.only k (by omega), bytes_only h.by_ k (fun ad e => by injection e with e; subst e; show ga ≠ z; omega), fun ad e => ?_, hg, ?_⟩
  · injection e with e; subst e
    obtain ⟨cur, fz, hh⟩ := h.ty _ rfl
    exact ⟨cur, fz, (k.block ga (h.ty.lt _ rfl) (by intro e; injection e with e; omega)).trans hh⟩
  · exact h.be.trans ⟨k.os, k.tape, k.output, k.size, fun i hi => k.block i (Nat.lt_of_lt_of_le hi h.be.size) (by intro e; injection e with e; omega)⟩
theorem bytes_bel {w w' : World} {A : Option Addr} {l : List UInt8} {B : Nat} (h : Bytes w A l) (k : Below B w w') (hA : ∀ ad, A = some ad → ad.block < B) : Bytes w' A l := by
  refine ⟨h.1, fun hn => ?_⟩
  obtain ⟨ad, h1, h2, h3⟩ := h.2 hn
  exact ⟨ad, h1, Nat.lt_of_lt_of_le h2 k.size, fun j u hu => (k.cell (by rw [block_of_add]; exact hA ad h1)).trans (h3 j u hu)⟩
theorem ty_bel {w w' : World} {ga oa B : Nat} (h : RowTy w (some ⟨ga, oa, none⟩)) (k : Below B w w') (hg : ga < B) : RowTy w' (some ⟨ga, oa, none⟩) := fun ad e => by
  injection e with e; subst e
  obtain ⟨cur, fz, hh⟩ := h _ rfl
  exact ⟨cur, fz, (k.block ga hg).trans hh⟩
theorem HD.bel {w0 ws w' : World} {ga oa c B : Nat} {l : List UInt8} (h : HD w0 ws ga oa c l) (k : Below B ws w') (hB : w0.heap.size + 1 < B) : HD w0 w' ga oa c l := by
  have hg := h.ga
  exact ⟨h.b.below k (by omega), h.r.below k hB, bytes_bel h.by_ k (fun ad e => by injection e with e; subst e; show ga < B; omega), ty_bel h.ty k (by omega), hg, h.be.trans (k.mono (by omega))⟩
theorem DS.bel {w w' : World} {be bb ba ga oa c B : Nat} {l : List UInt8} {at_ : Nat} (h : DS w be bb ba ga oa c l at_) (k : Below B w w') (h1 : be < B) (h2 : bb < B) (h3 : ba < B) (h4 : ga < B) : DS w' be bb ba ga oa c l at_ :=
  ⟨h.e.below k h1, h.b.below k h2, h.a.below k h3, bytes_bel h.by_ k (fun ad e => by injection e with e; subst e; exact h4), ty_bel h.ty k h4, h.lc, h.ll⟩
theorem K2.below_of {w w' : World} {x y B : Nat} (k : K2 w w' x y) (hx : B ≤ x) (hy : B ≤ y) (hB : B ≤ w.heap.size) : Below B w w' :=
  ⟨k.os, k.tape, k.output, k.size, fun i hi => k.block i (by omega) (by omega) (by omega)⟩
theorem own_k2 {w w' : World} {x y B size n : Nat} {e : TypeId} {v : Value} {xs : List Value} (h : w.ownsRow B e size v n xs) (k : K2 w w' x y) (hx : x < B) (hy : y < B) : w'.ownsRow B e size v n xs := by
  refine ⟨h.1, ?_⟩
  rcases h.2 with h0 | ⟨g, cap, cur, rfl, hg, hh, hr⟩
  · exact .inl h0
  · exact .inr ⟨g, cap, cur, rfl, hg, k.blk hh (by omega) (by omega), hr⟩
theorem reads5 {w : World} {g : Nat} {t : TypeId} {cs : List Value} (h : Blk w g t cs.toArray) (hl : cs.length = 5) : Reads w w.heap.size 5 (some ⟨g, 0, none⟩) 1 cs :=
  ⟨by rw [hl], fun _ => ⟨_, rfl, h.lt, fun j u hu => by rw [Addr.add_mid, Nat.zero_add, h.cell j]; simpa using hu⟩⟩
theorem one5 {s : ByteArray} {a b c : Int} {A : Option Addr} {n k : Nat} : ∀ u ∈ ([.string s, .int .i64 a, .int .i64 b, .int .i64 c, .slice A n k] : List Value), u.oneCell' = true := by
  intro u hu
  simp only [List.mem_cons, List.not_mem_nil, or_false] at hu
  rcases hu with rfl | rfl | rfl | rfl | rfl <;> rfl
theorem step_call {P : Program} {ops : Array Oper} {o : Oper} {a : Act} {w : World} {K : Act → World → Prop} {Q : Exit → Act → World → Prop} {E : Prop} (hg : o.guard = none) (f : FuncId) (args : Array Value)
    (ho : (execOp a.eval o).run P w = .ok (.enter f args) w) {R : Ending → World → Prop} (hc : Calls P f args w R) (v : Value) (hv : ∀ e w', R e w' → e = .returned v)
    (h : ∀ w', R (.returned v) w' → K (a.put o.dst v) w') : if Region.wanted o (yielded ops a.tmps) = true then Oper.wp P o a w K Q else E := by
  have hw : Region.wanted o (yielded ops a.tmps) = true := by simp [Region.wanted, hg]
  rw [if_pos hw]
  unfold Oper.wp
  rw [ho]
  show Calls P f args w _
  refine hc.mono ?_
  intro e w' hr
  obtain rfl := hv e w' hr
  exact h w' hr
theorem own_only {w w' : World} {z B size n : Nat} {e : TypeId} {v : Value} {xs : List Value} (h : w.ownsRow B e size v n xs) (k : w.grownBy w' (some z)) (hz : z < B) : w'.ownsRow B e size v n xs := by
  refine ⟨h.1, ?_⟩
  rcases h.2 with h0 | ⟨g, cap, cur, rfl, hg, hh, hr⟩
  · exact .inl h0
  · exact .inr ⟨g, cap, cur, rfl, hg, Blk.only hh k (by omega), hr⟩
theorem take_flatV {α β : Type} {l : List α} {f : α → List β} {k : Nat} {r : α} (h : l[k]? = some r) : (l.take k).flatMap f ++ f r = (l.take (k + 1)).flatMap f := by
  have hk := (List.getElem?_eq_some_iff.1 h).1
  have he := (List.getElem?_eq_some_iff.1 h).2
  rw [List.take_succ_eq_append_getElem hk, List.flatMap_append, he]
  simp
theorem step_callE {P : Program} {ops : Array Oper} {o : Oper} {a : Act} {w : World} {K : Act → World → Prop} {Q : Exit → Act → World → Prop} {E : Prop} (hg : o.guard = none) (f : FuncId) (args : Array Value)
    (ho : (execOp a.eval o).run P w = .ok (.enter f args) w) {R : Ending → World → Prop} (hc : Calls P f args w R) (vf : Option Addr × Nat → Value) (hv : ∀ e w', R e w' → ∃ x, e = .returned (vf x))
    (h : ∀ x w', R (.returned (vf x)) w' → K (a.put o.dst (vf x)) w') : if Region.wanted o (yielded ops a.tmps) = true then Oper.wp P o a w K Q else E := by
  have hw : Region.wanted o (yielded ops a.tmps) = true := by simp [Region.wanted, hg]
  rw [if_pos hw]
  unfold Oper.wp
  rw [ho]
  show Calls P f args w _
  refine hc.mono ?_
  intro e w' hr
  obtain ⟨x, rfl⟩ := hv e w' hr
  exact h x w' hr
theorem own_bel {w w' : World} {B B2 size n : Nat} {e : TypeId} {v : Value} {xs : List Value} (h : w.ownsRow B e size v n xs) (k : Below B2 w w') (hlt : ∀ i, v.ownBlock = some i → i < B2) : w'.ownsRow B e size v n xs := by
  refine ⟨h.1, ?_⟩
  rcases h.2 with h0 | ⟨g, cap, cur, rfl, hg, hh, hr⟩
  · exact .inl h0
  · exact .inr ⟨g, cap, cur, rfl, hg, Blk.below hh k (hlt g (by simp [Value.ownBlock])), hr⟩
def Rc.key (r : Rc) : ByteArray × Int × Int × Int × List UInt8 := (r.nm, r.t, r.c, r.u, r.da)
-- the answers that have been read: their Data stand in blocks of their own
structure AnsOk (ws : World) (B : Nat) (v : Value) (as2 src : List Rc) : Prop where
  key : as2.map Rc.key = src.map Rc.key
  by_ : ∀ r ∈ as2, Bytes ws r.A r.da ∧ r.da.length ≤ r.k
  ne : ∀ r ∈ as2, r.da ≠ [] → ∀ ad, r.A = some ad → v.ownBlock ≠ some ad.block ∧ B ≤ ad.block
theorem bytes_same {w w' : World} {A : Option Addr} {l : List UInt8} (h : Bytes w A l) (hs : w.heap.size ≤ w'.heap.size) (hk : l ≠ [] → ∀ ad, A = some ad → ad.block < w.heap.size → w'.heap[ad.block]? = w.heap[ad.block]?) : Bytes w' A l := by
  refine ⟨h.1, fun hn => ?_⟩
  obtain ⟨ad, h1, h2, h3⟩ := h.2 hn
  refine ⟨ad, h1, Nat.lt_of_lt_of_le h2 hs, fun j u hu => ?_⟩
  rw [World.cell?_of_block (w := w) (by rw [block_of_add]; exact hk (by intro e; subst e; simp at hn) ad h1 h2)]
  exact h3 j u hu
theorem AnsOk.snoc {ws w2 w' : World} {B : Nat} {v v' : Value} {as2 src : List Rc} (h : AnsOk ws B v as2 src) (r r2 : Rc) (hk : r2.key = r.key) (hB : B ≤ ws.heap.size) (hs : ws.heap.size ≤ w2.heap.size) (hs2 : w2.heap.size ≤ w'.heap.size)
    (hby : Bytes w2 r2.A r2.da) (hlk : r2.da.length ≤ r2.k) (hnew : ∀ ad, r2.A = some ad → ws.heap.size ≤ ad.block)
    (old : ∀ i, B ≤ i → i < ws.heap.size → v.ownBlock ≠ some i → w'.heap[i]? = ws.heap[i]?) (new : ∀ i, ws.heap.size ≤ i → i < w2.heap.size → w'.heap[i]? = w2.heap[i]?)
    (own : ∀ i, v'.ownBlock = some i → v.ownBlock = some i ∨ w2.heap.size ≤ i) (lt : ∀ i, v.ownBlock = some i → i < ws.heap.size) : AnsOk w' B v' (as2 ++ [r2]) (src ++ [r]) := by
  refine ⟨by rw [List.map_append, List.map_append, h.key]; simp [hk], fun q hq => ?_, fun q hq h0 ad e => ?_⟩
  · rcases List.mem_append.1 hq with hq | hq
    · exact ⟨bytes_same (h.by_ q hq).1 (Nat.le_trans hs hs2) (fun h0 ad e hl => old _ (h.ne q hq h0 ad e).2 hl (h.ne q hq h0 ad e).1), (h.by_ q hq).2⟩
    · simp only [List.mem_singleton] at hq
      subst hq
      exact ⟨bytes_same hby hs2 (fun _ ad e hl => new _ (hnew ad e) hl), hlk⟩
  · rcases List.mem_append.1 hq with hq | hq
    · obtain ⟨h1, h2⟩ := h.ne q hq h0 ad e
      refine ⟨fun e2 => ?_, h2⟩
      rcases own _ e2 with h3 | h3
      · exact h1 h3
      · obtain ⟨ad', e3, h4, _⟩ := (h.by_ q hq).1.2 (List.length_pos_iff.2 h0)
        rw [e] at e3; injection e3 with e3; subst e3; omega
    · simp only [List.mem_singleton] at hq
      subst hq
      refine ⟨fun e2 => ?_, Nat.le_trans hB (hnew ad e)⟩
      rcases own _ e2 with h3 | h3
      · have := lt _ h3; have := hnew ad e; omega
      · obtain ⟨ad', e3, h4, _⟩ := hby.2 (List.length_pos_iff.2 h0)
        rw [e] at e3; injection e3 with e3; subst e3; omega
theorem flat_at {α β : Type} {f : α → List β} {s : Nat} (hf : ∀ x, (f x).length = s) : ∀ (l : List α) (i : Nat) (x : α), l[i]? = some x → ∀ j, j < s → (l.flatMap f)[i * s + j]? = (f x)[j]?
  | [], i, x, h, _, _ => by simp at h
  | y :: l, 0, x, h, j, hj => by
    simp only [List.getElem?_cons_zero, Option.some.injEq] at h
    subst h
    rw [List.flatMap_cons, Nat.zero_mul, Nat.zero_add, List.getElem?_append_left (by rw [hf]; exact hj)]
  | y :: l, i + 1, x, h, j, hj => by
    simp only [List.getElem?_cons_succ] at h
    rw [List.flatMap_cons, List.getElem?_append_right (by rw [hf, Nat.succ_mul]; omega), hf, show (i + 1) * s + j - s = i * s + j by rw [Nat.succ_mul]; omega]
    exact flat_at hf l i x h j hj
theorem rows_own {α : Type} {w : World} {B n c : Nat} {Q : Option Addr} {l : List α} {f : α → List Value} (hf : ∀ x, (f x).length = 5) (h : w.ownsRow B 48 5 (.slice Q n c) n (l.flatMap f)) (hl : l.length = n) : RowsAt w w.heap.size 5 Q n (l.map f) := by
  refine ⟨by rw [List.length_map, hl], fun r hr => ?_, fun hn => ?_⟩
  · obtain ⟨x, _, rfl⟩ := List.mem_map.1 hr
    exact hf x
  · rcases h.2 with ⟨e, h0⟩ | ⟨g, cap, cur, e, hg, hh, h1, h2, h3, h4⟩
    · omega
    · injection e with e1 e2 e3
      subst e1
      refine ⟨_, rfl, Blk.lt hh, fun i r hr j u hu => ?_⟩
      rw [List.getElem?_map] at hr
      cases hx : l[i]? with
      | none => rw [hx] at hr; cases hr
      | some x =>
        rw [hx] at hr
        simp only [Option.map_some, Option.some.injEq] at hr
        subst hr
        have hj : j < 5 := by rw [← hf x]; exact (List.getElem?_eq_some_iff.1 hu).1
        have hi : i < n := by rw [← hl]; exact (List.getElem?_eq_some_iff.1 hx).1
        rw [Addr.add_mid, Nat.zero_add, Blk.cell hh]
        have h5 := flat_at hf l i x hx j hj
        rw [← h4, List.getElem?_take_of_lt (by omega), Array.getElem?_toList] at h5
        rw [h5]; exact hu
def rqZ (r : Rc) : Rc := { r with u := 0, da := [], A := none, k := 0 }
theorem own_agree {w w' : World} {B C size n : Nat} {e : TypeId} {v : Value} {xs : List Value} (h : w.ownsRow B e size v n xs) (hC : C ≤ B) (hk : ∀ i, C ≤ i → i < w.heap.size → w'.heap[i]? = w.heap[i]?) : w'.ownsRow B e size v n xs := by
  refine ⟨h.1, ?_⟩
  rcases h.2 with h0 | ⟨g, cap, cur, rfl, hg, hh, hr⟩
  · exact .inl h0
  · exact .inr ⟨g, cap, cur, rfl, hg, (hk g (by omega) (Blk.lt hh)).trans hh, hr⟩
def DecP (M : Ms) (w : World) (e : Ending) (w' : World) : Prop :=
  ∃ M2 : Ms, e = .returned (.tuple #[.agg #[.int .i64 M2.id, .int .i64 M2.fl, .slice M2.Q M2.q.length M2.n, .slice M2.A M2.a.length M2.m], .int .i64 0]) ∧ M2.id = M.id ∧ M2.fl = M.fl ∧ M2.q = M.q.map rqZ ∧ M2.a.map Rc.key = M.a.map Rc.key ∧ (∀ w'', w'.heap.size ≤ w''.heap.size → (∀ i, w.heap.size ≤ i → i < w'.heap.size → w''.heap[i]? = w'.heap[i]?) → IsM w'' M2) ∧ Below w.heap.size w w'
-- .. and what the rows may hold
def DecP2 (M : Ms) (w : World) (e : Ending) (w' : World) : Prop :=
  ∃ M2 : Ms, (e = .returned (.tuple #[.agg #[.int .i64 M2.id, .int .i64 M2.fl, .slice M2.Q M2.q.length M2.n, .slice M2.A M2.a.length M2.m], .int .i64 0]) ∧ M2.id = M.id ∧ M2.fl = M.fl ∧ M2.q = M.q.map rqZ ∧ M2.a.map Rc.key = M.a.map Rc.key ∧ (∀ w'', w'.heap.size ≤ w''.heap.size → (∀ i, w.heap.size ≤ i → i < w'.heap.size → w''.heap[i]? = w'.heap[i]?) → IsM w'' M2) ∧ Below w.heap.size w w') ∧ M2.a.length ≤ M2.m ∧
    w'.ownsRow w.heap.size 48 5 (.slice M2.Q M2.q.length M2.n) M2.q.length (M2.q.flatMap Rc.cs) ∧ w'.ownsRow w.heap.size 48 5 (.slice M2.A M2.a.length M2.m) M2.a.length (M2.a.flatMap Rc.cs) ∧
    (∀ i, (Value.slice M2.Q M2.q.length M2.n).ownBlock = some i → (Value.slice M2.A M2.a.length M2.m).ownBlock ≠ some i)
theorem own_cap {w : World} {B size n c : Nat} {e : TypeId} {A : Option Addr} {xs : List Value} (h : w.ownsRow B e size (.slice A n c) n xs) : n ≤ c := by
  rcases h.2 with ⟨e2, h0⟩ | ⟨g, cap, cur, e2, _, _, h1, _⟩
  · omega
  · injection e2 with _ _ e3
    omega
set_option maxRecDepth 100000 in
set_option maxHeartbeats 6400000 in
theorem decC2 (w : World) (M : Ms) (hz : wrongI M = 0) (hd3 : ∀ r ∈ M.a, r.da.length ≤ 3000) (hnq : ∀ r ∈ M.q, r.nm.size ≤ 3000) (hna : ∀ r ∈ M.a, r.nm.size ≤ 3000) (more l : List UInt8) (hl : l = encM M ++ more) (ga oa c : Nat) (hb : Bytes w (some ⟨ga, oa, none⟩) l) (hty : RowTy w (some ⟨ga, oa, none⟩)) (hll : l.length ≤ 1000000) (hlc : l.length ≤ c) :
    Calls Tryd.prog 13 #[.slice (some ⟨ga, oa, none⟩) l.length c] w (DecP2 M w) := by
  have ok := mok_of hz
  obtain ⟨X6, hX6⟩ : ∃ X6, M.q.flatMap qB ++ M.a.flatMap aB ++ more = X6 := ⟨_, rfl⟩
  have hl6 : l = beB M.id.toNat 2 ++ (beB M.fl.toNat 2 ++ (beB M.q.length 2 ++ (beB M.a.length 2 ++ (beB 0 4 ++ X6)))) := by
    rw [hl, ← hX6]
    unfold encM h6
    simp only [List.flatMap_cons, List.flatMap_nil, List.append_nil, List.append_assoc, Int.toNat_natCast]
    rfl
  have HL6 := Lib.hid hl6
  have HOK := Lib.hid ok
  have HL := Lib.hid hl
  have HX6 := Lib.hid hX6
  have H14 := Lib.hid (mok14 hz)
  have HZ := Lib.hid hz
  have hql := ok.ql
  have hal := ok.al
  have hi0 := ok.i0
  have hi1 := ok.i1
  have hf0 := ok.f0
  have hf1 := ok.f1
  have BB := Lib.hid (Blk.new w 34 #[.slice (some ⟨ga, oa, none⟩) l.length c])
  have B0 := Lib.hid (al (rf w) (.cells #[.slice (some ⟨ga, oa, none⟩) l.length c] 34))
  have HBY := Lib.hid hb
  have HTY := Lib.hid hty
  clear hl6 ok hl hX6 hz hb hty
  go_enter Tryd.func13, Tryd.ntmps13
  go_wp2_with fail
  have D0 : Hid (HD w ((w.alloc (.cells #[.slice (some ⟨ga, oa, none⟩) l.length c] 34)).alloc (.cells #[.int .i64 0, .int .i64 0, .slice none 0 0, .slice none 0 0] 43)) ga oa c l) := by
    have k := ((rf w).alloc (Nat.le_refl _) (.cells #[.slice (some ⟨ga, oa, none⟩) l.length c] 34)).alloc (by simp) (.cells #[.int .i64 0, .int .i64 0, .slice none 0 0, .slice none 0 0] 43)
    refine ⟨BB.out.alloc _, ?_, HBY.out.nx k, HTY.out.nx k, HTY.out.lt _ rfl, k⟩
    have h1 := Blk.new (w.alloc (.cells #[.slice (some ⟨ga, oa, none⟩) l.length c] 34)) 43 #[.int .i64 0, .int .i64 0, .slice none 0 0, .slice none 0 0]
    rw [show (w.alloc (.cells #[.slice (some ⟨ga, oa, none⟩) l.length c] 34)).heap.size = w.heap.size + 1 by simp] at h1
    exact h1
  clear BB B0 HBY HTY
  generalize ((w.alloc (.cells #[.slice (some ⟨ga, oa, none⟩) l.length c] 34)).alloc (.cells #[.int .i64 0, .int .i64 0, .slice none 0 0, .slice none 0 0] 43)) = w0 at D0 ⊢
  refine (newReader w0 (some ⟨ga, oa, none⟩) l l.length c D0.out.by_ rfl (by omega)).mono ?_
  rintro e w1 ⟨br, rfl, hbr, hR, b1⟩
  have hbr2 : w.heap.size + 1 < br := by have := D0.out.r.lt; omega
  rw [HL6.out] at hR
  have D1 := Lib.hid (D0.out.nx b1)
  have R1 := Lib.hid hR
  clear hR b1 D0 hbr
  go_wp2_with fail
  refine (rb2 w1 br _ _ R1.out (beB_len _ 2)).mono ?_
  rintro e w2 ⟨rfl, hR2, g2⟩
  have v2 : ((beN (beB M.id.toNat 2) : Nat) : Int) = M.id := by rw [beN_beB2 _ (by omega)]; omega
  rw [v2]
  have D2 := Lib.hid (D1.out.only g2 hbr2)
  have R2 := Lib.hid hR2
  clear hR2 g2 v2 D1 R1
  go_wp2_with fail
  refine (rb2 w2 br _ _ R2.out (beB_len _ 2)).mono ?_
  rintro e w3 ⟨rfl, hR3, g3⟩
  have v3 : ((beN (beB M.fl.toNat 2) : Nat) : Int) = M.fl := by rw [beN_beB2 _ (by omega)]; omega
  rw [v3]
  have D3 := Lib.hid (D2.out.only g3 hbr2)
  have R3 := Lib.hid hR3
  clear hR3 g3 v3 D2 R2
  have GM4 : Hid (Blk (w3.alloc (.cells #[.int .i64 M.id, .int .i64 M.fl, .slice none 0 0, .slice none 0 0] 43)) w3.heap.size 43 #[.int .i64 M.id, .int .i64 M.fl, .slice none 0 0, .slice none 0 0]) := Blk.new _ _ _
  have D4 := Lib.hid (D3.out.nx (al (rf w3) (.cells #[.int .i64 M.id, .int .i64 M.fl, .slice none 0 0, .slice none 0 0] 43)))
  have R4 := Lib.hid (R3.out.nx (al (rf w3) (.cells #[.int .i64 M.id, .int .i64 M.fl, .slice none 0 0, .slice none 0 0] 43)))
  have hbg : br < w3.heap.size := by obtain ⟨_, _, _, _, h1, _⟩ := R3.out; exact h1.lt
  have hgm : w.heap.size + 1 < w3.heap.size := by omega
  clear D3 R3
  go_wp2_with fail
  generalize w3.alloc (.cells #[.int .i64 M.id, .int .i64 M.fl, .slice none 0 0, .slice none 0 0] 43) = w4 at GM4 D4 R4 ⊢
  refine (rb2 w4 br _ _ R4.out (beB_len _ 2)).mono ?_
  rintro e w5 ⟨rfl, hR5, g5⟩
  have v5 : ((beN (beB M.q.length 2) : Nat) : Int) = M.q.length := by rw [beN_beB2 _ (by omega)]
  rw [v5]
  have D5 := Lib.hid (D4.out.only g5 hbr2)
  have GM5 := Lib.hid (GM4.out.only g5 (by omega))
  have R5 := Lib.hid hR5
  clear hR5 g5 v5 D4 R4 GM4
  go_wp2_with fail
  refine (rb2 w5 br _ _ R5.out (beB_len _ 2)).mono ?_
  rintro e w6 ⟨rfl, hR6, g6⟩
  have v6 : ((beN (beB M.a.length 2) : Nat) : Int) = M.a.length := by rw [beN_beB2 _ (by omega)]
  rw [v6]
  have D6 := Lib.hid (D5.out.only g6 hbr2)
  have GM6 := Lib.hid (GM5.out.only g6 (by omega))
  have R6 := Lib.hid hR6
  clear hR6 g6 v6 D5 R5 GM5
  go_wp2_with fail
  refine (rb4 w6 br _ _ R6.out (beB_len _ 4)).mono ?_
  rintro e w7 ⟨rfl, hR7, g7⟩
  have D7 := Lib.hid (D6.out.only g7 hbr2)
  have GM7 := Lib.hid (GM6.out.only g7 (by omega))
  have R7 := Lib.hid hR7
  clear hR7 g7 D6 R6 GM6
  have i1 : ¬ (64 : Int) < M.q.length := by omega
  have i2 : ¬ (64 : Int) < M.a.length := by omega
  have j1 : decide ((64 : Int) < M.q.length) = false := by rw [decide_eq_false_iff_not]; omega
  have j2 : decide ((64 : Int) < M.a.length) = false := by rw [decide_eq_false_iff_not]; omega
  go_wp2_with fail
  refine (rerr w7 br X6 0 R7.out).mono ?_
  rintro e w' ⟨rfl, e10⟩
  have e11 := e10.symm
  subst e11
  go_wp2
  have kb : Below w7.heap.size w7 ((w7.alloc (.cells #[.int .i64 12] 3)).alloc (.cells #[.int .i64 0] 25)) := al (al (rf w7) _) _
  have D8 := Lib.hid (D7.out.nx kb)
  have GM8 := Lib.hid (GM7.out.nx kb)
  have E8 : Hid (DS ((w7.alloc (.cells #[.int .i64 12] 3)).alloc (.cells #[.int .i64 0] 25)) (w7.heap.size + 1) w.heap.size w7.heap.size ga oa c l 12) := by
    have h1 := Blk.new (w7.alloc (.cells #[.int .i64 12] 3)) 25 #[.int .i64 0]
    rw [show (w7.alloc (.cells #[.int .i64 12] 3)).heap.size = w7.heap.size + 1 by simp] at h1
    exact ⟨h1, D8.out.b, (Blk.new w7 3 #[.int .i64 12]).alloc _, D8.out.by_, D8.out.ty, hlc, hll⟩
  have hs8 : Hid (((w7.alloc (.cells #[.int .i64 12] 3)).alloc (.cells #[.int .i64 0] 25)).heap.size = w7.heap.size + 2) := by show _ = _; simp
  have hw7 : w3.heap.size < w7.heap.size := GM7.out.lt
  clear kb D7 GM7 R7
  generalize ((w7.alloc (.cells #[.int .i64 12] 3)).alloc (.cells #[.int .i64 0] 25)) = w8 at D8 GM8 E8 hs8 ⊢
  have hs9 := hs8.out
  go_loopw [39] (fun kv ws => ∃ (k : Nat) (Q : Option Addr) (n : Nat), kv = .int .i64 k ∧ k ≤ M.q.length ∧ Hid (HD w ws ga oa c l) ∧ Hid (DS ws (w7.heap.size + 1) w.heap.size w7.heap.size ga oa c l (12 + ((M.q.take k).flatMap qB).length)) ∧ Hid (Blk ws w3.heap.size 43 #[.int .i64 M.id, .int .i64 M.fl, .slice Q k n, .slice none 0 0]) ∧ Hid (ws.ownsRow w8.heap.size 48 5 (.slice Q k n) k ((M.q.take k).flatMap fun r => (rqZ r).cs)) ∧ Hid (w8.heap.size ≤ ws.heap.size)) (fun kv _ => M.q.length - (intOf kv).toNat)
  case atStart => exact ⟨0, none, 0, rfl, by omega, D8.out, E8.out, GM8.out, World.ownsRow_nil _ _ _ _, Nat.le_refl _⟩
  case round =>
    obtain ⟨k, Q, n, rfl, hk, HD1, DS1, GM1, OW1, SZ1⟩ := hrel
    by_cases hlt : k < M.q.length
    · obtain ⟨r, hr⟩ : ∃ r, M.q[k]? = some r := ⟨_, List.getElem?_eq_getElem hlt⟩
      have HT := Lib.hid (take_flat (f := qB) hr)
      have HTV := Lib.hid (take_flatV (f := fun r => (rqZ r).cs) hr)
      have kb : (k : Int) < M.q.length := by omega
      have HRK := Lib.hid (HOK.out.q r (List.mem_of_getElem? hr))
      have HSP : Hid (l = (((h6 M).flatMap fun v => beB v.toNat 2) ++ (M.q.take k).flatMap qB) ++ qB r ++ ((M.q.drop (k + 1)).flatMap qB ++ M.a.flatMap aB ++ more)) := by
        show _ = _
        rw [HL.out]
        unfold encM
        rw [flat_split (f := qB) hr]
        simp only [List.append_assoc]
      have FQ : Hid (∀ ws, DS ws (w7.heap.size + 1) w.heap.size w7.heap.size ga oa c l (12 + ((M.q.take k).flatMap qB).length) → Calls Tryd.prog 29 #[.bool false, .pointer (some ⟨w7.heap.size + 1, 0, none⟩), .pointer (some ⟨w.heap.size, 0, none⟩), .pointer (some ⟨w7.heap.size, 0, none⟩)] ws (RowP ws (w7.heap.size + 1) w.heap.size w7.heap.size ga oa c l (12 + ((M.q.take (k + 1)).flatMap qB).length) (.agg #[.string r.nm, .int .i64 r.t, .int .i64 r.c, .int .i64 0, .slice none 0 0]))) := by
        intro ws h
        obtain ⟨P, hP⟩ : ∃ P, ((h6 M).flatMap fun v => beB v.toNat 2) ++ (M.q.take k).flatMap qB = P := ⟨_, rfl⟩
        have hPl : P.length = 12 + ((M.q.take k).flatMap qB).length := by rw [← hP, List.length_append, flat2_len]; rfl
        have hl := HSP.out
        rw [hP] at hl
        have h2 := rowQ ws (w7.heap.size + 1) w.heap.size w7.heap.size ga oa c P ((M.q.drop (k + 1)).flatMap qB ++ M.a.flatMap aB ++ more) r HRK.out (by rw [← hl, hPl]; exact h)
        rw [← hl] at h2
        rw [show (P ++ qB r).length = 12 + ((M.q.take (k + 1)).flatMap qB).length by rw [← HT.out, List.length_append, List.length_append, hPl]; omega] at h2
        exact h2
      have y1 : wr.cell? ⟨w3.heap.size, 2, none⟩ = some (.slice Q k n) := GM1.out.cell 2
      have D1d := Lib.hid (DS1.out.nx (rf wr).drew)
      have G1d := Lib.hid (GM1.out.nx (rf wr).drew)
      have H1d := Lib.hid (HD1.out.nx (rf wr).drew)
      have O1d := Lib.hid OW1.out.drew
      have S1d : Hid (w8.heap.size ≤ wr.drew.heap.size) := SZ1.out
      have hk64 : k ≤ 64 := by omega
      clear hr
      go_wp2
      go_region_law (first
        | (refine step_call rfl 29 #[.bool false, .pointer (some ⟨w7.heap.size + 1, 0, none⟩), .pointer (some ⟨w.heap.size, 0, none⟩), .pointer (some ⟨w7.heap.size, 0, none⟩)] (by kernel_rfl) (FQ.out _ D1d.out) (.agg #[.string r.nm, .int .i64 r.t, .int .i64 r.c, .int .i64 0, .slice none 0 0]) (fun e w' h => h.1) ?_
           intro w2 hrow
           have ds2 := Lib.hid hrow.2.1
           have k2 := hrow.2.2
           have K2h := Lib.hid k2
           have G2 := Lib.hid (k2.blk G1d.out (by omega) (by omega))
           have y2 : w2.cell? ⟨w3.heap.size, 2, none⟩ = some (.slice Q k n) := G2.out.cell 2
           have y2a : ∀ o, (w2.alloc o).cell? ⟨w3.heap.size, 2, none⟩ = some (.slice Q k n) := fun o => (G2.out.alloc o).cell 2
           have O2 := Lib.hid (own_k2 O1d.out k2 (by omega) (by omega))
           have S2 : Hid (w8.heap.size ≤ w2.heap.size) := Nat.le_trans S1d.out k2.size
           clear hrow k2)
        | (refine step_app stRc rfl (.tmp 42) (.tmp 45) rfl w8.heap.size (.slice Q k n) k _ rfl (O2.out.alloc (.cells #[.string r.nm, .int .i64 r.t, .int .i64 r.c, .int .i64 0, .slice none 0 0] 48)) (some ⟨w2.heap.size, 0, none⟩) 1 1 [.string r.nm, .int .i64 r.t, .int .i64 r.c, .int .i64 0, .slice none 0 0] rfl (reads5 (Blk.new w2 _ _) rfl) one5 (by omega) (by omega) (Nat.le_trans S2.out (by simp)) ?_
           intro v3 w9 own3 gr3 at3 bel3
           obtain ⟨Q3, n3, rfl⟩ := own_slice own3
           have O3 := Lib.hid own3
           have B3 := Lib.hid bel3
           have y3 : w9.cell? ⟨w3.heap.size, 2, none⟩ = some (.slice Q k n) := ((G2.out.alloc _).below bel3 (by omega)).cell 2
           have f3 : w9.frozen? ⟨w3.heap.size, 2, none⟩ = false := ((G2.out.alloc _).below bel3 (by omega)).frozen 2
           clear own3 gr3 at3 bel3)
        | fail)
      all_goals
        have hb7 : Below w7.heap.size wr.drew w2 := K2h.out.below_of (by omega) (Nat.le_refl _) (by have := S1d.out; omega)
        have G9 := Lib.hid ((G2.out.alloc _).below B3.out (by omega))
        have k9 := only_set w9 w3.heap.size 2 (.slice Q3 (k + 1) n3)
        have GA : Hid (Blk (w9.setCell ⟨w3.heap.size, 2, none⟩ (.slice Q3 (k + 1) n3)) w3.heap.size 43 #[.int .i64 M.id, .int .i64 M.fl, .slice Q3 (k + 1) n3, .slice none 0 0]) := G9.out.set_ 2 _
        have HA := Lib.hid ((((H1d.out.bel hb7 (by omega)).nx (al (rf w2) _)).bel B3.out (by omega)).only k9 (by omega))
        have hgaw := H1d.out.ga
        have DA := Lib.hid (((ds2.out.nx (al (rf w2) _)).bel B3.out (by omega) (by omega) (by omega) (by omega)).only k9 (by omega) (by omega) (by omega) (by omega))
        have OA : Hid ((w9.setCell ⟨w3.heap.size, 2, none⟩ (.slice Q3 (k + 1) n3)).ownsRow w8.heap.size 48 5 (.slice Q3 (k + 1) n3) (k + 1) ((M.q.take (k + 1)).flatMap fun r => (rqZ r).cs)) := by
          have h1 := own_only O3.out k9 (by omega)
          have h2 : (M.q.take k).flatMap (fun r => (rqZ r).cs) ++ [.string r.nm, .int .i64 r.t, .int .i64 r.c, .int .i64 0, .slice none 0 0] = (M.q.take (k + 1)).flatMap fun r => (rqZ r).cs := HTV.out
          rw [h2] at h1
          exact h1
        have SA : Hid (w8.heap.size ≤ (w9.setCell ⟨w3.heap.size, 2, none⟩ (.slice Q3 (k + 1) n3)).heap.size) := by
          show _ ≤ _
          have h1 := B3.out.size
          have h2 := S2.out
          simp at h1 ⊢
          omega
        clear y1 y2 y2a y3 f3 k9 hb7
        go_wp2
        go_roundw
        case rel => exact ⟨k + 1, Q3, n3, by go_num, by omega, HA.out, DA.out, GA.out, OA.out, SA.out⟩
        case measure => simp [intOf]; omega
    · have ek : k = M.q.length := by omega
      rw [ek, List.take_length] at OW1 DS1
      rw [ek] at GM1
      have y1 : wr.cell? ⟨w3.heap.size, 3, none⟩ = some (.slice none 0 0) := GM1.out.cell 3
      obtain ⟨p1, hp1⟩ : ∃ p1, 12 + (M.q.flatMap qB).length = p1 := ⟨_, rfl⟩
      rw [hp1] at DS1
      have HP1 := Lib.hid hp1
      have HEK := Lib.hid ek
      clear hp1 ek
      go_wp2
      clear hlt hk
      have QL : Hid (∀ i, (Value.slice Q M.q.length n).ownBlock = some i → i < wr.heap.size) := fun i e => (OW1.out.lt i e).2
      obtain ⟨wq, hwq⟩ : ∃ wq, wq = wr := ⟨_, rfl⟩
      subst hwq
      clear y1
      go_loopw [50] (fun kv ws => ∃ (k : Nat) (A : Option Addr) (m : Nat) (as2 : List Rc), kv = .int .i64 k ∧ k ≤ M.a.length ∧ as2.length = k ∧ Hid (HD w ws ga oa c l) ∧ Hid (DS ws (w7.heap.size + 1) w.heap.size w7.heap.size ga oa c l (p1 + ((M.a.take k).flatMap aB).length)) ∧ Hid (Blk ws w3.heap.size 43 #[.int .i64 M.id, .int .i64 M.fl, .slice Q M.q.length n, .slice A k m]) ∧ Hid (ws.ownsRow w8.heap.size 48 5 (.slice Q M.q.length n) M.q.length (M.q.flatMap fun r => (rqZ r).cs)) ∧ Hid (ws.ownsRow wq.heap.size 48 5 (.slice A k m) k (as2.flatMap Rc.cs)) ∧ Hid (AnsOk ws w8.heap.size (.slice A k m) as2 (M.a.take k)) ∧ Hid (wq.heap.size ≤ ws.heap.size)) (fun kv _ => M.a.length - (intOf kv).toNat)
      case atStart => exact ⟨0, none, 0, [], rfl, by omega, rfl, HD1.out, DS1.out, GM1.out, OW1.out, World.ownsRow_nil _ _ _ _, ⟨rfl, by simp, by simp⟩, Nat.le_refl _⟩
      case round =>
        have SQ := SZ1.out
        obtain ⟨k, A, m, as2, rfl, hk, hl2, HD2, DS2, GM2, OQ2, OA2, AN2, SZ2⟩ := hrel
        by_cases hlt : k < M.a.length
        · obtain ⟨r, hr⟩ : ∃ r, M.a[k]? = some r := ⟨_, List.getElem?_eq_getElem hlt⟩
          have HT := Lib.hid (take_flat (f := aB) hr)
          have kb : (k : Int) < M.a.length := by omega
          have HRM := List.mem_of_getElem? hr
          have HRK := Lib.hid (HOK.out.a r HRM)
          have HR14 := Lib.hid (H14.out r HRM)
          have hda := hd3 r HRM
          have HTK : Hid (M.a.take k ++ [r] = M.a.take (k + 1)) := by
            show _ = _
            rw [List.take_add_one, hr]; rfl
          have HSP : Hid (l = (((h6 M).flatMap fun v => beB v.toNat 2) ++ M.q.flatMap qB ++ (M.a.take k).flatMap aB) ++ aB r ++ ((M.a.drop (k + 1)).flatMap aB ++ more)) := by
            show _ = _
            rw [HL.out]
            unfold encM
            rw [flat_split (f := aB) hr]
            simp only [List.append_assoc]
          have FA : Hid (∀ ws, DS ws (w7.heap.size + 1) w.heap.size w7.heap.size ga oa c l (p1 + ((M.a.take k).flatMap aB).length) → Calls Tryd.prog 29 #[.bool true, .pointer (some ⟨w7.heap.size + 1, 0, none⟩), .pointer (some ⟨w.heap.size, 0, none⟩), .pointer (some ⟨w7.heap.size, 0, none⟩)] ws (RowAP ws (w7.heap.size + 1) w.heap.size w7.heap.size ga oa c l (p1 + ((M.a.take (k + 1)).flatMap aB).length) r)) := by
            intro ws h
            obtain ⟨P, hP⟩ : ∃ P, ((h6 M).flatMap fun v => beB v.toNat 2) ++ M.q.flatMap qB ++ (M.a.take k).flatMap aB = P := ⟨_, rfl⟩
            have hPl : P.length = p1 + ((M.a.take k).flatMap aB).length := by rw [← hP, ← HP1.out, List.length_append, List.length_append, flat2_len]; rfl
            have hl := HSP.out
            rw [hP] at hl
            have h2 := rowA ws (w7.heap.size + 1) w.heap.size w7.heap.size ga oa c P ((M.a.drop (k + 1)).flatMap aB ++ more) r HRK.out HR14.out hda (by rw [← hl, hPl]; exact h)
            rw [← hl] at h2
            rw [show (P ++ aB r).length = p1 + ((M.a.take (k + 1)).flatMap aB).length by rw [← HT.out, List.length_append, List.length_append, hPl]; omega] at h2
            exact h2
          have y1 : wr.cell? ⟨w3.heap.size, 3, none⟩ = some (.slice A k m) := GM2.out.cell 3
          have D1d := Lib.hid (DS2.out.nx (rf wr).drew)
          have G1d := Lib.hid (GM2.out.nx (rf wr).drew)
          have O1d := Lib.hid OA2.out.drew
          have S1d : Hid (wq.heap.size ≤ wr.drew.heap.size) := SZ2.out
          have hk64 : k ≤ 64 := by omega
          clear hr HRM
          go_wp2
          go_region_law (first
            | (refine step_callE rfl 29 #[.bool true, .pointer (some ⟨w7.heap.size + 1, 0, none⟩), .pointer (some ⟨w.heap.size, 0, none⟩), .pointer (some ⟨w7.heap.size, 0, none⟩)] (by kernel_rfl) (FA.out _ D1d.out) (fun x => .agg #[.string r.nm, .int .i64 r.t, .int .i64 r.c, .int .i64 r.u, .slice x.1 r.da.length x.2]) (fun e w' h => ⟨(h.choose, h.choose_spec.choose), h.choose_spec.choose_spec.1⟩) ?_
               intro x w2 hrow
               have HROW := Lib.hid hrow
               have k2 : K2 wr.drew w2 (w7.heap.size + 1) w7.heap.size := by obtain ⟨_, _, _, _, _, _, _, h⟩ := hrow; exact h
               have K2h := Lib.hid k2
               have G2 := Lib.hid (k2.blk G1d.out (by omega) (by omega))
               have y2 : w2.cell? ⟨w3.heap.size, 3, none⟩ = some (.slice A k m) := G2.out.cell 3
               have y2a : ∀ o, (w2.alloc o).cell? ⟨w3.heap.size, 3, none⟩ = some (.slice A k m) := fun o => (G2.out.alloc o).cell 3
               have O2 := Lib.hid (own_k2 O1d.out k2 (by omega) (by omega))
               have S2 : Hid (wq.heap.size ≤ w2.heap.size) := Nat.le_trans S1d.out k2.size
               clear hrow k2)
            | (refine step_app stRc rfl (.tmp 53) (.tmp 56) rfl wq.heap.size (.slice A k m) k _ rfl (O2.out.alloc (.cells #[.string r.nm, .int .i64 r.t, .int .i64 r.c, .int .i64 r.u, .slice x.1 r.da.length x.2] 48)) (some ⟨w2.heap.size, 0, none⟩) 1 1 [.string r.nm, .int .i64 r.t, .int .i64 r.c, .int .i64 r.u, .slice x.1 r.da.length x.2] rfl (reads5 (Blk.new w2 _ _) rfl) one5 (by omega) (by omega) (Nat.le_trans S2.out (by simp)) ?_
               intro v3 w9 own3 gr3 at3 bel3
               obtain ⟨Q3, n3, rfl⟩ := own_slice own3
               have O3 := Lib.hid own3
               have B3 := Lib.hid bel3
               have GR3 := Lib.hid gr3
               have AT3 := Lib.hid at3
               have y3 : w9.cell? ⟨w3.heap.size, 3, none⟩ = some (.slice A k m) := ((G2.out.alloc _).below bel3 (by omega)).cell 3
               have f3 : w9.frozen? ⟨w3.heap.size, 3, none⟩ = false := ((G2.out.alloc _).below bel3 (by omega)).frozen 3
               clear own3 gr3 at3 bel3)
            | fail)
          all_goals
            have H1d := Lib.hid (HD2.out.nx (rf wr).drew)
            have hb7 : Below w7.heap.size wr.drew w2 := K2h.out.below_of (by omega) (Nat.le_refl _) (by have := S1d.out; omega)
            have G9 := Lib.hid ((G2.out.alloc (.cells #[.string r.nm, .int .i64 r.t, .int .i64 r.c, .int .i64 r.u, .slice x.1 r.da.length x.2] 48)).below B3.out (by omega))
            have k9 := only_set w9 w3.heap.size 3 (.slice Q3 (k + 1) n3)
            have GA : Hid (Blk (w9.setCell ⟨w3.heap.size, 3, none⟩ (.slice Q3 (k + 1) n3)) w3.heap.size 43 #[.int .i64 M.id, .int .i64 M.fl, .slice Q M.q.length n, .slice Q3 (k + 1) n3]) := G9.out.set_ 3 _
            have HA := Lib.hid ((((H1d.out.bel hb7 (by omega)).nx (al (rf w2) _)).bel B3.out (by omega)).only k9 (by omega))
            have hgaw := H1d.out.ga
            obtain ⟨A', c', he, hby, hc', hnew, hds, hk2⟩ := HROW.out
            simp at he
            obtain ⟨he1, he2⟩ := he
            have DA := Lib.hid (((hds.nx (al (rf w2) _)).bel B3.out (by omega) (by omega) (by omega) (by omega)).only k9 (by omega) (by omega) (by omega) (by omega))
            have OQ : Hid ((w9.setCell ⟨w3.heap.size, 3, none⟩ (.slice Q3 (k + 1) n3)).ownsRow w8.heap.size 48 5 (.slice Q M.q.length n) M.q.length (M.q.flatMap fun r => (rqZ r).cs)) :=
              own_only (own_bel ((own_k2 OQ2.out.drew K2h.out (by omega) (by omega)).alloc _) B3.out QL.out) k9 (by omega)
            have OA : Hid ((w9.setCell ⟨w3.heap.size, 3, none⟩ (.slice Q3 (k + 1) n3)).ownsRow wq.heap.size 48 5 (.slice Q3 (k + 1) n3) (k + 1) ((as2 ++ [(⟨r.nm, r.t, r.c, r.u, r.da, x.1, x.2⟩ : Rc)]).flatMap Rc.cs)) := by
              have h1 := own_only O3.out k9 (by omega)
              rw [List.flatMap_append]
              exact h1
            have hsz2 := K2h.out.size
            have hsz9 := B3.out.size
            have hwf : w2.heap.size ≤ (w9.setCell ⟨w3.heap.size, 3, none⟩ (.slice Q3 (k + 1) n3)).heap.size := by
              have h1 := GR3.out.size
              simp at h1 ⊢
              omega
            have AN : Hid (AnsOk (w9.setCell ⟨w3.heap.size, 3, none⟩ (.slice Q3 (k + 1) n3)) w8.heap.size (.slice Q3 (k + 1) n3) (as2 ++ [(⟨r.nm, r.t, r.c, r.u, r.da, x.1, x.2⟩ : Rc)]) (M.a.take (k + 1))) := by
              show AnsOk _ _ _ _ _
              rw [← HTK.out]
              have hal : ∀ i, i < w2.heap.size → (w2.alloc (.cells #[.string r.nm, .int .i64 r.t, .int .i64 r.c, .int .i64 r.u, .slice x.1 r.da.length x.2] 48)).heap[i]? = w2.heap[i]? := fun i hi => Below.heap_alloc w2 _ i hi
              refine AN2.out.snoc r _ rfl (Nat.le_trans SQ SZ2.out) hsz2 hwf (by rw [he1]; exact hby) (by show _ ≤ x.2; rw [he2]; exact hc') (fun ad e => hnew ad (by rw [← he1]; exact e)) (fun i h1 h2 h3 => ?_) (fun i h1 h2 => ?_) (fun i e => ?_) (fun i e => (OA2.out.lt i e).2)
              · have hi2 : i < w2.heap.size := Nat.lt_of_lt_of_le h2 hsz2
                have hi3 : i < (w2.alloc (.cells #[.string r.nm, .int .i64 r.t, .int .i64 r.c, .int .i64 r.u, .slice x.1 r.da.length x.2] 48)).heap.size := by simp; omega
                rw [k9.block i (Nat.lt_of_lt_of_le hi3 GR3.out.size) (by intro e; injection e with e; omega), GR3.out.block i hi3 (fun e => h3 e.symm), hal i hi2]
                exact K2h.out.block i h2 (by omega) (by omega)
              · have hi3 : i < (w2.alloc (.cells #[.string r.nm, .int .i64 r.t, .int .i64 r.c, .int .i64 r.u, .slice x.1 r.da.length x.2] 48)).heap.size := by simp; omega
                rw [k9.block i (Nat.lt_of_lt_of_le hi3 GR3.out.size) (by intro e; injection e with e; have := SZ2.out; omega), GR3.out.block i hi3 (fun e => by have := (OA2.out.lt i e.symm).2; omega), hal i h2]
              · rcases AT3.out with h | h
                · exact .inl (h.symm.trans e)
                · rw [h] at e; injection e with e
                  refine .inr ?_
                  rw [← e]; simp
            have SA : Hid (wq.heap.size ≤ (w9.setCell ⟨w3.heap.size, 3, none⟩ (.slice Q3 (k + 1) n3)).heap.size) := Nat.le_trans S2.out hwf
            clear y1 y2 y2a y3 f3 k9 hb7 he1 he2 hby hc' hnew hds hk2
            go_wp2
            go_roundw
            case rel => exact ⟨k + 1, Q3, n3, as2 ++ [(⟨r.nm, r.t, r.c, r.u, r.da, x.1, x.2⟩ : Rc)], by go_num, by omega, by rw [List.length_append, hl2]; rfl, HA.out, DA.out, GA.out, OQ.out, OA.out, AN.out, SA.out⟩
            case measure => simp [intOf]; omega
        · have ek2 : k = M.a.length := by omega
          have EK2 := Lib.hid ek2
          have e0 := DS2.out.e.cell 0
          have m0 := GM2.out.cell 0
          have m1 := GM2.out.cell 1
          have m2 := GM2.out.cell 2
          have m3 := GM2.out.cell 3
          simp only [List.getElem?_toArray, List.getElem?_cons_zero, List.getElem?_cons_succ] at e0 m0 m1 m2 m3
          have WE : Hid (wr.grownBy (wr.setRow (w.heap.size + 1) #[.int .i64 M.id, .int .i64 M.fl, .slice Q M.q.length n, .slice A k m]) (some (w.heap.size + 1))) :=
            ⟨rfl, rfl, rfl, by simp [World.setRow], fun i _ hne => setRow_other wr _ i _ (by intro e; exact hne (by rw [e]))⟩
          have RW := Lib.hid (setRow_heap wr (w.heap.size + 1) _ #[.int .i64 M.id, .int .i64 M.fl, .slice Q M.q.length n, .slice A k m] _ _ HD2.out.r)
          clear ek2
          go_wp2_with (refine wpList_store_row rfl 43 (.tmp 2) (.tmp 64) rfl _ #[.int .i64 M.id, .int .i64 M.fl, .slice Q M.q.length n, .slice A k m] rfl rfl _ _ HD2.out.r (by kernel_rfl) rfl (by kernel_rfl) ?_)
          refine bodyPost_ret (v := .tuple #[.agg #[.int .i64 M.id, .int .i64 M.fl, .slice Q M.q.length n, .slice A k m], .int .i64 0]) ((run_results_cell_tmp rfl _ _ _ _ _ _ _ rfl RW.out Tryd.underlying43 rfl (by kernel_rfl)).trans rfl) rfl ?_
          have hk2 : k = M.a.length := EK2.out
          have hkey : as2.map Rc.key = M.a.map Rc.key := by have h := AN2.out.key; rw [hk2, List.take_length] at h; exact h
          have hin : ∀ r ∈ as2, ∃ x ∈ M.a, x.nm = r.nm ∧ x.da = r.da := fun r hr => by
            have h1 : r.key ∈ M.a.map Rc.key := by rw [← hkey]; exact List.mem_map.2 ⟨r, hr, rfl⟩
            obtain ⟨x, hx, he⟩ := List.mem_map.1 h1
            unfold Rc.key at he
            injection he with h2 he; injection he with _ he; injection he with _ he; injection he with _ he
            exact ⟨x, hx, h2, he⟩
          have OQW := Lib.hid (own_only OQ2.out WE.out (by omega))
          have OAW := Lib.hid (own_only OA2.out WE.out (by omega))
          have hwq : w.heap.size ≤ wq.heap.size := by omega
          refine ⟨⟨M.id, M.fl, M.q.map rqZ, as2, Q, A, n, m⟩, ⟨?_, rfl, rfl, rfl, hkey, fun wz hsz hag => ?_, below_setRow HD2.out.be (by omega) _⟩, by have h := own_cap OA2.out; rw [← hl2] at h; exact h, ?_, ?_, fun i h1 h2 => by
            have h3 := QL.out i (by cases Q <;> exact h1)
            have h4 := (OA2.out.lt i (by cases A <;> exact h2)).1
            omega⟩
          rotate_left
          have hQ := rows_own (f := fun r : Rc => (rqZ r).cs) (fun _ => rfl) (own_agree (C := w.heap.size) OQW.out (by omega) hag) rfl
          have hA := rows_own (f := Rc.cs) (fun _ => rfl) (own_agree (C := w.heap.size) OAW.out hwq hag) hl2
          refine ⟨?_, ?_, ?_, ?_, ?_, ?_⟩
          rotate_left 6
          · show World.ownsRow _ _ _ 5 (.slice Q (M.q.map rqZ).length n) (M.q.map rqZ).length ((M.q.map rqZ).flatMap Rc.cs)
            rw [List.length_map, List.flatMap_map]
            exact own_base OQW.out (by omega)
          · show World.ownsRow _ _ _ 5 (.slice A as2.length m) as2.length (as2.flatMap Rc.cs)
            rw [hl2]
            exact own_base OAW.out hwq
          · show Ending.returned _ = Ending.returned (.tuple #[.agg #[.int .i64 M.id, .int .i64 M.fl, .slice Q (M.q.map rqZ).length n, .slice A as2.length m], .int .i64 0])
            rw [List.length_map, hl2]
          · show RowsAt _ _ 5 Q (M.q.map rqZ).length ((M.q.map rqZ).map Rc.cs)
            rw [List.length_map, List.map_map]
            exact hQ
          · show RowsAt _ _ 5 A as2.length (as2.map Rc.cs)
            rw [hl2]
            exact hA
          · intro r hr
            obtain ⟨x, hx, rfl⟩ := List.mem_map.1 hr
            exact ⟨Bytes.nil _ _, Nat.le_refl _, Nat.zero_le _, hnq x hx⟩
          · intro r hr
            obtain ⟨x, hx, h1, h2⟩ := hin r hr
            refine ⟨bytes_same (AN2.out.by_ r hr).1 (Nat.le_trans WE.out.size hsz) (fun h0 ad e hl => by
              have hge := (AN2.out.ne r hr h0 ad e).2
              rw [hag _ (by omega) (Nat.lt_of_lt_of_le hl WE.out.size)]
              exact WE.out.block _ hl (by intro e2; injection e2 with e2; omega)), (AN2.out.by_ r hr).2, by rw [← h2]; exact hd3 x hx, by rw [← h1]; exact hna x hx⟩
          · show (M.q.map rqZ).length ≤ 3000
            rw [List.length_map]; omega
          · show as2.length ≤ 3000
            omega
theorem decC (w : World) (M : Ms) (hz : wrongI M = 0) (hd3 : ∀ r ∈ M.a, r.da.length ≤ 3000) (hnq : ∀ r ∈ M.q, r.nm.size ≤ 3000) (hna : ∀ r ∈ M.a, r.nm.size ≤ 3000) (more l : List UInt8) (hl : l = encM M ++ more) (ga oa c : Nat) (hb : Bytes w (some ⟨ga, oa, none⟩) l) (hty : RowTy w (some ⟨ga, oa, none⟩)) (hll : l.length ≤ 1000000) (hlc : l.length ≤ c) :
    Calls Tryd.prog 13 #[.slice (some ⟨ga, oa, none⟩) l.length c] w (DecP M w) :=
  (decC2 w M hz hd3 hnq hna more l hl ga oa c hb hty hll hlc).mono fun e w' ⟨M2, h, _⟩ => ⟨M2, h⟩
end Go.Proofs.YtpfkmmmlocmakaaDoor
