/-
  Lease: what a right message is written as is read as it: plain words, and where the walk of Decode stands.
-/
import Derived.Test.YtgdlghieifadhaaLeD
import Derived.Test.YtgdlghieifadhaaMem
import Derived.Laws.CopyRow
import Derived.Laws.IdiomCopy
set_option linter.unusedVariables false
namespace Go.Proofs.Ytgdlghieifadhaa
open Go.RowKit

-- copy into a block that is known whole, from a row of bytes: only that block turns
theorem step_cp {ops : Array Oper} {o : Oper} {a : Act} {w : World} {K : Act → World → Prop} {Q : Exit → Act → World → Prop} {E : Prop} (hgd : o.guard = none) (d s : Operand)
    (ho : o.op = .call { callee := .builtin .copy, args := #[d, s], argTypes := #[51, 51] })
    (g off dLen dCap : Nat) (hd : a.eval d = .slice (some ⟨g, off, none⟩) dLen dCap) (A : Option Addr) (l : List UInt8) (n c : Nat) (hs : a.eval s = .slice A n c) (hn : n = l.length) (h0 : 0 < l.length) (hl : l.length ≤ dLen)
    (t : TypeId) (cur : List Value) (hg : Blk w g t cur.toArray) (hb : Bytes w A l) (hfit : off + l.length ≤ cur.length)
    (h : ∀ w', Blk w' g t (splice cur off (Lib.byteCells l)).toArray → w.grownBy w' (some g) → K (a.put o.dst (goInt l.length)) w') :
    if Region.wanted o (yielded ops a.tmps) = true then Oper.wp Try.prog o a w K Q else E := by
  subst hn
  have hw : Region.wanted o (yielded ops a.tmps) = true := by simp [Region.wanted, hgd]
  rw [if_pos hw]
  have hsz : (Try.prog.info? 5).map (·.size) = some 1 := by kernel_rfl
  obtain ⟨ad, rfl, _, hsrc⟩ := hb.2 (by omega)
  have hrun := run_copy_row (P := Try.prog) w 51 51 o.type 5 g off dLen dCap ad l.length c cur.toArray t (Lib.byteCells l) Try.underlying51 hsz hg (by rw [byteCells_len]; exact (Nat.min_eq_left hl).symm) hsrc (by rw [byteCells_len]; simpa using hfit) (one_u8 l)
  rw [byteCells_len] at hrun
  unfold Oper.wp
  simp [execOp, ho, resolve, invoke, builtin, hd, hs, hrun, Result.andThen]
  refine h _ ?_ ?_
  · have := setRow_heap w g _ (splice cur off (Lib.byteCells l)).toArray t _ hg
    simpa [splice, Blk, byteCells_len] using this
  · exact ⟨rfl, rfl, rfl, by simp, fun i _ hi => setRow_other w g i _ (by intro e; exact hi (by rw [e]))⟩
theorem IsR.only' {w w' : World} {b g : Nat} {l : List UInt8} {err : Int} {t : TypeId} {cs : Array Value} (h : IsR w b l err) (k : w.grownBy w' (some g)) (hg : Blk w g t cs) (ht : t ≠ 89) (ht2 : t ≠ 79) (ht3 : t ≠ 5) : IsR w' b l err := by
  obtain ⟨A, n, c, x, h1, h2, h3, h4, h5, h6, h7⟩ := h
  exact ⟨A, n, c, x, h1.grown k (by intro e; injection e with e; exact hg.ne_ h1 ht e.symm), h2.grown k (by intro e; injection e with e; exact hg.ne_ h2 ht2 e.symm), h3, h4, bytes_only h5 k (h6.ne hg ht3), h6.only k hg ht3, h7⟩
theorem IsR.lt {w : World} {b : Nat} {l : List UInt8} {err : Int} (h : IsR w b l err) : b < w.heap.size := by
  obtain ⟨A, n, c, x, h1, _⟩ := h
  exact Blk.lt h1
-- what stands behind the head, option by option
def entB (e : Int × Int × Nat) : List UInt8 := beB e.1.toNat 1 ++ (beB e.2.2 1 ++ beB e.2.1.toNat e.2.2)
def setE (m : Ls) (e : Int × Int × Nat) : Ls := setO m e.1 e.2.1
def ents (m : Ls) : List (Int × Int × Nat) := (53, m.ty, 1) :: ((optsL m).filter (fun p => decide (p.2 ≠ 0))).map (fun p => (p.1, p.2, 4))
def headL (m : Ls) : Ls := { zeroL with op := m.op, id := m.id, yours := m.yours, cl := m.cl }
theorem ents_len (m : Ls) : (ents m).length ≤ 7 := by
  unfold ents
  rw [List.length_cons, List.length_map]
  have := List.length_filter_le (fun p : Int × Int => decide (p.2 ≠ 0)) (optsL m)
  have h6 : (optsL m).length = 6 := rfl
  omega
theorem ents_bytes (m : Ls) : (ents m).flatMap entB = beB 53 1 ++ beB 1 1 ++ beB m.ty.toNat 1 ++ (optsL m).flatMap leO := by
  have h : ∀ l : List (Int × Int), ((l.filter (fun p => decide (p.2 ≠ 0))).map (fun p => (p.1, p.2, 4))).flatMap entB = l.flatMap leO := fun l => by
    induction l with
    | nil => rfl
    | cons p l ih =>
      rw [List.filter_cons]
      by_cases hp : p.2 = 0
      · rw [if_neg (by simpa using hp), List.flatMap_cons, ih, show leO p = [] from if_pos hp, List.nil_append]
      · rw [if_pos (by simpa using hp), List.map_cons, List.flatMap_cons, List.flatMap_cons, ih, show leO p = beB p.1.toNat 1 ++ beB 4 1 ++ beB p.2.toNat 4 from if_neg hp]
        simp only [entB, List.append_assoc]
  unfold ents
  rw [List.flatMap_cons, h]
  simp only [entB, List.append_assoc]
  rfl
theorem ents_ok {m : Ls} (ok : LsOk m) (gd : LsGood m) : ∀ e ∈ ents m, OkE e.1 e.2.1 e.2.2 := fun e he => by
  unfold ents at he
  rcases List.mem_cons.1 he with rfl | he
  · exact .inl ⟨rfl, rfl, (show 0 ≤ m.ty by have := gd.ty0; omega), (show m.ty ≤ 255 by have := gd.ty1; omega)⟩
  · obtain ⟨p, hp, rfl⟩ := List.mem_map.1 he
    have hp := (List.mem_filter.1 hp).1
    have ho := ok.o p hp
    simp only [optsL, List.mem_cons, List.not_mem_nil, or_false] at hp
    rcases hp with rfl | rfl | rfl | rfl | rfl | rfl
    · exact .inr (.inl ⟨.inl rfl, rfl, ho.2.2 (by show (54 : Int) ≠ 51; decide)⟩)
    · exact .inr (.inl ⟨.inr (.inl rfl), rfl, ho.2.2 (by show (50 : Int) ≠ 51; decide)⟩)
    · exact .inr (.inr ⟨rfl, rfl, gd.t0, gd.t1⟩)
    · exact .inr (.inl ⟨.inr (.inr (.inl rfl)), rfl, ho.2.2 (by show (1 : Int) ≠ 51; decide)⟩)
    · exact .inr (.inl ⟨.inr (.inr (.inr (.inl rfl))), rfl, ho.2.2 (by show (3 : Int) ≠ 51; decide)⟩)
    · exact .inr (.inl ⟨.inr (.inr (.inr (.inr rfl))), rfl, ho.2.2 (by show (6 : Int) ≠ 51; decide)⟩)
theorem OkE.k {k v : Int} {n : Nat} (h : OkE k v n) : 1 ≤ k ∧ k ≤ 54 ∧ n ≤ 4 ∧ 1 ≤ n := by
  rcases h with ⟨rfl, rfl, _⟩ | ⟨rfl | rfl | rfl | rfl | rfl, rfl, _⟩ | ⟨rfl, rfl, _⟩ <;> omega
theorem ents_fold (m : Ls) : (ents m).foldl setE (headL m) = m := by
  have h : ∀ (l : List (Int × Int)) (M : Ls), ((l.filter (fun p => decide (p.2 ≠ 0))).map (fun p => (p.1, p.2, 4))).foldl setE M = l.foldl (fun M p => if p.2 = 0 then M else setO M p.1 p.2) M := fun l => by
    induction l with
    | nil => intro M; rfl
    | cons p l ih =>
      intro M
      rw [List.filter_cons, List.foldl_cons]
      by_cases hp : p.2 = 0
      · rw [if_neg (by simpa using hp), ih, if_pos hp]
      · rw [if_pos (by simpa using hp), List.map_cons, List.foldl_cons, ih, if_neg hp]
        rfl
  unfold ents
  rw [List.foldl_cons, h]
  obtain ⟨op, id, yours, cl, ty, server, asked, time, mask, router, resolver⟩ := m
  have e1 : ∀ (M : Ls) (v : Int), M.server = 0 → (if v = 0 then M else setO M 54 v) = { M with server := v } := fun M v hM => by
    by_cases hv : v = 0
    · subst hv; rw [if_pos rfl, ← hM]
    · rw [if_neg hv]; rfl
  have e2 : ∀ (M : Ls) (v : Int), M.asked = 0 → (if v = 0 then M else setO M 50 v) = { M with asked := v } := fun M v hM => by
    by_cases hv : v = 0
    · subst hv; rw [if_pos rfl, ← hM]
    · rw [if_neg hv]; rfl
  have e3 : ∀ (M : Ls) (v : Int), M.time = 0 → (if v = 0 then M else setO M 51 v) = { M with time := v } := fun M v hM => by
    by_cases hv : v = 0
    · subst hv; rw [if_pos rfl, ← hM]
    · rw [if_neg hv]; rfl
  have e4 : ∀ (M : Ls) (v : Int), M.mask = 0 → (if v = 0 then M else setO M 1 v) = { M with mask := v } := fun M v hM => by
    by_cases hv : v = 0
    · subst hv; rw [if_pos rfl, ← hM]
    · rw [if_neg hv]; rfl
  have e5 : ∀ (M : Ls) (v : Int), M.router = 0 → (if v = 0 then M else setO M 3 v) = { M with router := v } := fun M v hM => by
    by_cases hv : v = 0
    · subst hv; rw [if_pos rfl, ← hM]
    · rw [if_neg hv]; rfl
  have e6 : ∀ (M : Ls) (v : Int), M.resolver = 0 → (if v = 0 then M else setO M 6 v) = { M with resolver := v } := fun M v hM => by
    by_cases hv : v = 0
    · subst hv; rw [if_pos rfl, ← hM]
    · rw [if_neg hv]; rfl
  unfold optsL
  simp only [List.foldl_cons, List.foldl_nil]
  rw [e1 _ _ rfl, e2 _ _ rfl, e3 _ _ rfl, e4 _ _ rfl, e5 _ _ rfl, e6 _ _ rfl]
  rfl
theorem leB_form (m : Ls) : leB m = beB m.op.toNat 1 ++ (beB 1 1 ++ (beB 6 1 ++ (beB 0 1 ++ (beB m.id.toNat 4 ++ (zs 8 ++ (beB m.yours.toNat 4 ++ (zs 8 ++ (macB m.cl ++ (zs 202 ++ (beB 1669485411 4 ++ ((ents m).flatMap entB ++ beB 255 1))))))))))) := by
  rw [ents_bytes]
  unfold leB
  simp only [List.append_assoc]
theorem leB_len (m : Ls) : 240 ≤ (leB m).length ∧ (leB m).length ≤ 1000 := by
  have h := leOs_len (optsL m)
  have h6 : (optsL m).length = 6 := rfl
  have hm : (macB m.cl).length = 6 := rfl
  unfold leB zs
  simp only [List.length_append, beB_len, List.length_replicate]
  omega
-- where the walk stands: the reader, the row that is handed out, the message in the making
structure Dl (w W : World) (b g : Nat) (M : Ls) (l : List UInt8) : Prop where
  r : IsR W b l 0
  z : Blk W w.heap.size 27 zeroL.cs.toArray
  d : Blk W g 27 M.cs.toArray
  bel : Below w.heap.size w W
  hb : w.heap.size < b
  hg : w.heap.size < g
  ne : g ≠ b
theorem Dl.to_ {w W W' : World} {b g : Nat} {M : Ls} {l l' : List UInt8} (h : Dl w W b g M l) (r : IsR W' b l' 0) (k : W.grownBy W' (some b)) : Dl w W' b g M l' :=
  ⟨r, h.z.only k (by have := h.hb; omega), h.d.only k h.ne, h.bel.trans (below_only k (by have := h.hb; omega) h.bel.size), h.hb, h.hg, h.ne⟩
theorem Dl.op {w W W' : World} {b g : Nat} {M M' : Ls} {l : List UInt8} (h : Dl w W b g M l) (d : Blk W' g 27 M'.cs.toArray) (k : W.grownBy W' (some g)) : Dl w W' b g M' l :=
  ⟨h.r.only' k h.d (by decide) (by decide) (by decide), h.z.only k (by have := h.hg; omega), d, h.bel.trans (below_only k (by have := h.hg; omega) h.bel.size), h.hb, h.hg, h.ne⟩
theorem Dl.set_ {w W : World} {b g : Nat} {M M' : Ls} {l : List UInt8} (h : Dl w W b g M l) (i : Nat) (u : Value) (he : M.cs.set i u = M'.cs) : Dl w (W.setCell ⟨g, i, none⟩ u) b g M' l := by
  have k : World.grownBy W (W.setCell ⟨g, i, none⟩ u) (some g) := only_setCell (p := ⟨g, i, none⟩) (World.grownBy.refl _ _) (.inl rfl) _
  refine h.op ?_ k
  have := h.d.set_ i u
  rwa [List.setIfInBounds_toArray, he] at this
theorem Dl.nx {w W W' : World} {b g : Nat} {M : Ls} {l : List UInt8} (h : Dl w W b g M l) (k : Below W.heap.size W W') : Dl w W' b g M l :=
  ⟨h.r.nx k, h.z.nx k, h.d.nx k, Go.Proofs.Ytgdlghieifadhaa.nx h.bel k, h.hb, h.hg, h.ne⟩
def rdLen (w : World) (b : Nat) : Nat := match w.cell? ⟨b, 0, none⟩ with
  | some (.slice _ n _) => n
  | _ => 0
theorem IsR.len {w : World} {b : Nat} {l : List UInt8} {err : Int} (h : IsR w b l err) : rdLen w b = l.length := by
  obtain ⟨A, n, c, h0, h1, _⟩ := h.left
  unfold rdLen
  rw [h0, h1]
end Go.Proofs.Ytgdlghieifadhaa
