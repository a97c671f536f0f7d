/-
  Routes, the program: a frame by a set of blocks; the tree changed at one place.
-/
import Derived.Test.YtmboadgmhafedaaTr4
set_option linter.unusedVariables false
namespace Go.Proofs.Ytmboadgmhafedaa
open Go.RowKit

-- the blocks but for those of S are as they were
structure KeepS (S : Nat → Prop) (w w' : World) : Prop where
  os : w'.os = w.os
  tape : w'.tape = w.tape
  output : w'.output = w.output
  size : w.heap.size ≤ w'.heap.size
  block : ∀ k, k < w.heap.size → ¬ S k → w'.heap[k]? = w.heap[k]?
section
variable {S S' : Nat → Prop} {w w' a b c : World}
theorem KeepS.refl : KeepS S w w := ⟨rfl, rfl, rfl, Nat.le_refl _, fun _ _ _ => rfl⟩
theorem KeepS.trans (h : KeepS S a b) (k : KeepS S' b c) (hs : ∀ i, i < a.heap.size → S' i → S i) : KeepS S a c :=
  ⟨k.os.trans h.os, k.tape.trans h.tape, k.output.trans h.output, Nat.le_trans h.size k.size, fun i hi hn => (k.block i (Nat.lt_of_lt_of_le hi h.size) (fun e => hn (hs i hi e))).trans (h.block i hi hn)⟩
theorem KeepS.mono (h : KeepS S w w') (hs : ∀ i, i < w.heap.size → S i → S' i) : KeepS S' w w' := ⟨h.os, h.tape, h.output, h.size, fun i hi hn => h.block i hi (fun e => hn (hs i hi e))⟩
theorem KeepS.of_below (h : Below w.heap.size w w') : KeepS S w w' := ⟨h.os, h.tape, h.output, h.size, fun i hi _ => h.block i hi⟩
theorem KeepS.of_grown {row : Option Nat} (h : w.grownBy w' row) (hs : ∀ g, row = some g → S g) : KeepS S w w' := ⟨h.os, h.tape, h.output, h.size, fun i hi hn => h.block i hi (fun e => hn (hs i e.symm))⟩
theorem KeepS.set {p : Addr} (hs : S p.block) (u : Value) : KeepS S w (w.setCell p u) := KeepS.of_grown (only_setCell (World.grownBy.refl w (some p.block)) (.inl rfl) u) (fun g e => by injection e with e; rw [← e]; exact hs)
theorem KeepS.below {B : Nat} (h : KeepS S w w') (hS : ∀ i, S i → B ≤ i) (hB : B ≤ w.heap.size) : Below B w w' := ⟨h.os, h.tape, h.output, h.size, fun i hi => h.block i (by omega) (fun e => by have := hS i e; omega)⟩
theorem KeepS.blk {g : Nat} {t : TypeId} {cs : Array Value} (h : KeepS S w w') (hb : Blk w g t cs) (hn : ¬ S g) : Blk w' g t cs := (h.block g hb.lt hn).trans hb
theorem KeepS.own {B size k : Nat} {e : TypeId} {v : Value} {xs : List Value} (h : KeepS S w w') (own : w.ownsRow B e size v k xs) (hn : ∀ g, v.ownBlock = some g → ¬ S g) : w'.ownsRow B e size v k xs := by
  refine ⟨own.1, ?_⟩
  rcases own.2 with h0 | ⟨g, cap, cur, rfl, hg, hh, hr⟩
  · exact .inl h0
  · exact .inr ⟨g, cap, cur, rfl, hg, (h.block g (Blk.lt hh) (hn g rfl)).trans hh, hr⟩
end
def tyN (p : List Nat) : TypeId := if p = [] then 32 else 30
def csN (T : Tre) (n : Int) (p : List Nat) (v : Value) : Array Value := if p = [] then #[v, kidV T p 0, kidV T p 1, .int .i64 n] else #[v, kidV T p 0, kidV T p 1]
def Foot (T : Tre) (i : Nat) : Prop := ∃ p d, T p = some d ∧ (d.g = i ∨ d.v.ownBlock = some i)
def rsOf (T : Tre) (p : List Nat) : List R4 := match T p with | some d => d.rs | none => []
theorem rsOf_some {T : Tre} {p : List Nat} {d : Nd} (h : T p = some d) : rsOf T p = d.rs := by unfold rsOf; rw [h]
theorem rsOf_none {T : Tre} {p : List Nat} (h : T p = none) : rsOf T p = [] := by unfold rsOf; rw [h]
def upT (T : Tre) (p : List Nat) (o : Option Nd) : Tre := fun q => if q = p then o else T q
theorem upT_at {T : Tre} {p : List Nat} {o : Option Nd} : upT T p o p = o := if_pos rfl
theorem upT_ne {T : Tre} {p q : List Nat} {o : Option Nd} (h : q ≠ p) : upT T p o q = T q := if_neg h
theorem ty_ne (p : List Nat) : 36 ≠ tyN p := by unfold tyN; split <;> decide
-- what a step leaves: only blocks of the tree are changed, and its new ones are new
structure Gs (w w' : World) (T T' : Tre) : Prop where
  keep : KeepS (Foot T) w w'
  ft : ∀ i, Foot T' i → Foot T i ∨ w.heap.size ≤ i
theorem Gs.trans {w w1 w2 : World} {T T1 T2 : Tre} (h : Gs w w1 T T1) (k : Gs w1 w2 T1 T2) : Gs w w2 T T2 :=
  ⟨h.keep.trans k.keep (fun i hi hf => (h.ft i hf).resolve_right (by omega)), fun i hf => (k.ft i hf).elim (h.ft i) (fun e => .inr (Nat.le_trans h.keep.size e))⟩
theorem Gs.of_below {w w' : World} {T : Tre} (h : Below w.heap.size w w') : Gs w w' T T := ⟨KeepS.of_below h, fun i hf => .inl hf⟩
section
variable {w w' : World} {B t : Nat} {T : Tre} {n : Int}
theorem IsT.all (h : IsT w B t T n) {p : List Nat} {d : Nd} (hd : T p = some d) : Blk w d.g (tyN p) (csN T n p d.v) := by
  unfold tyN csN
  by_cases hp : p = []
  · subst hp
    rw [if_pos rfl, if_pos rfl]
    obtain ⟨d', h1, h2⟩ := h.root
    rw [hd] at h1
    injection h1 with h1
    subst h1
    rw [h2]
    exact h.blk0 d hd
  · rw [if_neg hp, if_neg hp]
    exact h.blk p d hp hd
theorem IsT.of (root : ∃ d, T [] = some d ∧ d.g = t) (all : ∀ p d, T p = some d → Blk w d.g (tyN p) (csN T n p d.v)) (own : ∀ p d, T p = some d → OwnL w B d.v d.rs)
    (inj : ∀ p q d e, T p = some d → T q = some e → p ≠ q → d.g ≠ e.g) (rows : ∀ p q d e, T p = some d → T q = some e → p ≠ q → d.v.ownBlock = none ∨ d.v.ownBlock ≠ e.v.ownBlock)
    (pre : ∀ p c, (T (p ++ [c])).isSome = true → (T p).isSome = true) (bits : ∀ p d, T p = some d → p.length ≤ 32 ∧ ∀ c ∈ p, c < 2) (hb : ∀ p d, T p = some d → B ≤ d.g) : IsT w B t T n := by
  refine ⟨root, fun d hd => ?_, fun p d hp hd => ?_, own, inj, rows, pre, bits, hb⟩
  · obtain ⟨d', h1, h2⟩ := root
    rw [hd] at h1
    injection h1 with h1
    subst h1
    have h3 := all [] d hd
    unfold tyN csN at h3
    rw [if_pos rfl, if_pos rfl, h2] at h3
    exact h3
  · have h3 := all p d hd
    unfold tyN csN at h3
    rw [if_neg hp, if_neg hp] at h3
    exact h3
theorem IsT.lt (h : IsT w B t T n) {p : List Nat} {d : Nd} (hd : T p = some d) : d.g < w.heap.size := (h.all hd).lt
theorem IsT.fro (h : IsT w B t T n) {p : List Nat} {d : Nd} (hd : T p = some d) (i : Nat) : w.frozen? ⟨d.g, i, none⟩ = false := (h.all hd).frozen i
theorem own_lo {B : Nat} {v : Value} {rs : List R4} (h : OwnL w B v rs) {i : Nat} (hi : v.ownBlock = some i) : B ≤ i ∧ i < w.heap.size := by
  rcases h.2 with ⟨rfl, _⟩ | ⟨g, cap, cur, rfl, hb, hh, _⟩
  · simp [Value.ownBlock] at hi
  · have : g = i := by simpa [Value.ownBlock] using hi
    subst this
    exact ⟨hb, Blk.lt hh⟩
theorem IsT.foot (h : IsT w B t T n) {i : Nat} (hf : Foot T i) : B ≤ i ∧ i < w.heap.size := by
  obtain ⟨p, d, hd, rfl | hr⟩ := hf
  · exact ⟨h.hb p d hd, h.lt hd⟩
  · exact own_lo (h.own p d hd) hr
theorem IsT.row_ne (h : IsT w B t T n) {p q : List Nat} {d e : Nd} (hd : T p = some d) (he : T q = some e) : d.v.ownBlock ≠ some e.g := own_blk_ne (h.own p d hd) (h.all he) (ty_ne q)
theorem IsT.keep {S : Nat → Prop} (h : IsT w B t T n) (k : KeepS S w w') (hn : ∀ i, Foot T i → ¬ S i) : IsT w' B t T n :=
  IsT.of h.root (fun p d hd => k.blk (h.all hd) (hn _ ⟨p, d, hd, .inl rfl⟩)) (fun p d hd => k.own (h.own p d hd) (fun g hg => hn _ ⟨p, d, hd, .inr hg⟩)) h.inj h.rows h.pre h.bits h.hb
theorem kidV_some {p : List Nat} {c : Nat} {d : Nd} (h : T (p ++ [c]) = some d) : kidV T p c = .pointer (some ⟨d.g, 0, none⟩) := by unfold kidV; rw [h]
theorem kidV_none {p : List Nat} {c : Nat} (h : T (p ++ [c]) = none) : kidV T p c = .pointer none := by unfold kidV; rw [h]
theorem kidV_up {p : List Nat} {d d' : Nd} (hd : T p = some d) (hg : d'.g = d.g) (q : List Nat) (c : Nat) : kidV (upT T p (some d')) q c = kidV T q c := by
  by_cases h : q ++ [c] = p
  · rw [kidV_some (T := upT T p (some d')) (d := d') (by rw [h]; exact upT_at), kidV_some (by rw [h]; exact hd), hg]
  · unfold kidV
    rw [upT_ne h]
theorem csN_congr {T' : Tre} {n : Int} {q : List Nat} (h : ∀ c, kidV T' q c = kidV T q c) (v : Value) : csN T' n q v = csN T n q v := by unfold csN; rw [h, h]
theorem set_v (T : Tre) (n : Int) (p : List Nat) (v v' : Value) : (csN T n p v).setIfInBounds 0 v' = csN T n p v' := by unfold csN; split <;> rfl
-- a node's routes are laid
theorem IsT.put (h : IsT w B t T n) {p : List Nat} {d : Nd} (hd : T p = some d) {w2 : World} (gr : w.grownBy w2 d.v.ownBlock) {v' : Value} {rs' : List R4} (own : OwnL w2 B v' rs') (hv : v'.ownBlock = d.v.ownBlock ∨ ∃ g, v'.ownBlock = some g ∧ w.heap.size ≤ g) :
    IsT (w2.setCell ⟨d.g, 0, none⟩ v') B t (upT T p (some ⟨d.g, v', rs'⟩)) n ∧ Gs w (w2.setCell ⟨d.g, 0, none⟩ v') T (upT T p (some ⟨d.g, v', rs'⟩)) := by
  have kv := kidV_up (d' := ⟨d.g, v', rs'⟩) hd rfl
  have B2 : ∀ q e, T q = some e → Blk w2 e.g (tyN q) (csN T n q e.v) := fun q e he => (h.all he).grown gr (fun e2 => h.row_ne hd he e2.symm)
  have hlt : ∀ q e, T q = some e → ∀ i, e.v.ownBlock = some i → i < w.heap.size := fun q e he i hi => (own_lo (h.own q e he) hi).2
  have O3 : ∀ {v : Value} {rs : List R4}, OwnL w2 B v rs → OwnL (w2.setCell ⟨d.g, 0, none⟩ v') B v rs := fun {v rs} ho => by
    have hne := own_blk_ne ho (B2 p d hd) (ty_ne p)
    exact KeepS.own (S := fun i => i = d.g) (KeepS.set (S := fun i => i = d.g) (p := ⟨d.g, 0, none⟩) rfl v') ho (fun g hg e => hne (by rw [hg, e]))
  have P : ∀ q e, upT T p (some ⟨d.g, v', rs'⟩) q = some e → (q = p ∧ e = ⟨d.g, v', rs'⟩) ∨ (q ≠ p ∧ T q = some e) := fun q e he => by
    by_cases hq : q = p
    · subst hq
      rw [upT_at] at he
      injection he with he
      exact .inl ⟨rfl, he.symm⟩
    · rw [upT_ne hq] at he
      exact .inr ⟨hq, he⟩
  constructor
  · refine IsT.of ?_ ?_ ?_ ?_ ?_ ?_ ?_ ?_
    · obtain ⟨r, h1, h2⟩ := h.root
      by_cases hp : [] = p
      · subst hp
        rw [h1] at hd
        injection hd with hd
        subst hd
        exact ⟨_, upT_at, h2⟩
      · exact ⟨r, by rw [upT_ne hp]; exact h1, h2⟩
    · intro q e he
      rw [csN_congr (kv q)]
      replace he := P q e he
      rcases he with ⟨rfl, rfl⟩ | ⟨hq, he⟩
      · have h3 := (B2 q d hd).set_ 0 v'
        rw [set_v] at h3
        exact h3
      · exact (B2 q e he).far (p := ⟨d.g, 0, none⟩) (h.inj q p e d he hd hq) v'
    · intro q e he
      replace he := P q e he
      rcases he with ⟨rfl, rfl⟩ | ⟨hq, he⟩
      · exact O3 own
      · refine O3 (show w2.ownsRow _ _ _ _ _ _ from KeepS.own (S := fun i => d.v.ownBlock = some i) (KeepS.of_grown gr (fun g e => e)) (h.own q e he) (fun g hg e2 => ?_))
        rcases h.rows q p e d he hd hq with e3 | e3
        · rw [hg] at e3; cases e3
        · exact e3 (by rw [hg, e2])
    · intro q s e f he hf hqs
      replace he := P q e he
      rcases he with ⟨rfl, rfl⟩ | ⟨hq, he⟩
      · replace hf := P s f hf
        rcases hf with ⟨rfl, rfl⟩ | ⟨hs, hf⟩
        · exact absurd rfl hqs
        · exact h.inj _ _ d f hd hf hqs
      · replace hf := P s f hf
        rcases hf with ⟨rfl, rfl⟩ | ⟨hs, hf⟩
        · exact h.inj _ _ e d he hd hqs
        · exact h.inj _ _ e f he hf hqs
    · intro q s e f he hf hqs
      have key : ∀ s f, s ≠ p → T s = some f → (v'.ownBlock = none ∨ v'.ownBlock ≠ f.v.ownBlock) ∧ (f.v.ownBlock = none ∨ f.v.ownBlock ≠ v'.ownBlock) := fun s f hs hf => by
        rcases hv with e1 | ⟨g, e1, hg⟩
        · rw [e1]
          exact ⟨h.rows p s d f hd hf (Ne.symm hs), h.rows s p f d hf hd hs⟩
        · rw [e1]
          have e2 : f.v.ownBlock ≠ some g := fun e => by have := hlt s f hf g e; omega
          exact ⟨.inr (Ne.symm e2), .inr e2⟩
      replace he := P q e he
      rcases he with ⟨rfl, rfl⟩ | ⟨hq, he⟩
      · replace hf := P s f hf
        rcases hf with ⟨rfl, rfl⟩ | ⟨hs, hf⟩
        · exact absurd rfl hqs
        · exact (key s f hs hf).1
      · replace hf := P s f hf
        rcases hf with ⟨rfl, rfl⟩ | ⟨hs, hf⟩
        · exact (key q e hq he).2
        · exact h.rows _ _ e f he hf hqs
    · intro q c hq
      have S1 : ∀ q, (upT T p (some ⟨d.g, v', rs'⟩) q).isSome = (T q).isSome := fun q => by
        by_cases hq : q = p
        · subst hq; rw [upT_at, hd]; rfl
        · rw [upT_ne hq]
      rw [S1] at hq ⊢
      exact h.pre q c hq
    · intro q e he
      replace he := P q e he
      rcases he with ⟨rfl, rfl⟩ | ⟨hq, he⟩
      · exact h.bits q d hd
      · exact h.bits q e he
    · intro q e he
      replace he := P q e he
      rcases he with ⟨rfl, rfl⟩ | ⟨hq, he⟩
      · exact h.hb q d hd
      · exact h.hb q e he
  · refine ⟨(KeepS.of_grown gr (fun g e => ⟨p, d, hd, .inr e⟩)).trans (KeepS.set (S := Foot T) (p := ⟨d.g, 0, none⟩) ⟨p, d, hd, .inl rfl⟩ v') (fun _ _ h => h), ?_⟩
    rintro i ⟨q, e, he, hi⟩
    replace he := P q e he
    rcases he with ⟨rfl, rfl⟩ | ⟨hq, he⟩
    · rcases hi with rfl | hi
      · exact .inl ⟨q, d, hd, .inl rfl⟩
      · rcases hv with e1 | ⟨g, e1, hg⟩
        · exact .inl ⟨q, d, hd, .inr (by rw [← e1]; exact hi)⟩
        · simp only at hi
          rw [e1] at hi
          injection hi with hi
          exact .inr (by omega)
    · exact .inl ⟨q, e, he, hi⟩
-- the number of routes is laid
theorem IsT.setn (h : IsT w B t T n) (m : Int) : IsT (w.setCell ⟨t, 3, none⟩ (.int .i64 m)) B t T m ∧ Gs w (w.setCell ⟨t, 3, none⟩ (.int .i64 m)) T T := by
  obtain ⟨r, h1, h2⟩ := h.root
  have hk : KeepS (fun i => i = t) w (w.setCell ⟨t, 3, none⟩ (.int .i64 m)) := KeepS.set (S := fun i => i = t) (p := ⟨t, 3, none⟩) rfl _
  refine ⟨IsT.of h.root ?_ (fun p d hd => hk.own (h.own p d hd) (fun g hg e => h.row_ne hd h1 (by rw [hg, e, h2]))) h.inj h.rows h.pre h.bits h.hb, ?_⟩
  · intro p d hd
    by_cases hp : p = []
    · subst hp
      rw [h1] at hd
      injection hd with hd
      subst hd
      have h3 := (h.all h1).set_ 3 (.int .i64 m)
      rw [h2] at h3 ⊢
      exact h3
    · have h3 := (h.all hd).far (p := ⟨t, 3, none⟩) (by rw [← h2]; exact h.inj p [] d r hd h1 hp) (.int .i64 m)
      unfold csN at h3 ⊢
      rw [if_neg hp] at h3 ⊢
      exact h3
  · exact Gs.trans (T1 := T) ⟨KeepS.set (S := Foot T) (p := ⟨t, 3, none⟩) ⟨[], r, h1, .inl h2⟩ _, fun i hf => .inl hf⟩ (Gs.of_below (rf _))
theorem app_inj {p q : List Nat} {c e : Nat} (h : p ++ [c] = q ++ [e]) : p = q ∧ c = e := by
  have := List.append_inj' h rfl
  exact ⟨this.1, by simpa using this.2⟩
theorem app_ne (p : List Nat) (c : Nat) : p ++ [c] ≠ p := fun e => by
  have := congrArg List.length e
  simp at this
theorem set_kid {T T' : Tre} {n : Int} {p : List Nat} {v u : Value} {c : Nat} (hc : c < 2) (h1 : kidV T' p c = u) (h2 : ∀ e, e ≠ c → kidV T' p e = kidV T p e) : (csN T n p v).setIfInBounds (1 + c) u = csN T' n p v := by
  unfold csN
  match c, hc with
  | 0, _ => rw [h1, h2 1 (by decide)]; split <;> rfl
  | 1, _ => rw [h1, h2 0 (by decide)]; split <;> rfl
-- a node is laid beneath another
theorem IsT.lay (h : IsT w B t T n) (hB : B ≤ w.heap.size) {p : List Nat} {d : Nd} (hd : T p = some d) {c : Nat} (hc : c < 2) (hl : p.length < 32) (hn : T (p ++ [c]) = none) :
    IsT ((w.alloc (.cells #[.slice none 0 0, .pointer none, .pointer none] 30)).setCell ⟨d.g, 1 + c, none⟩ (.pointer (some ⟨w.heap.size, 0, none⟩))) B t (upT T (p ++ [c]) (some ⟨w.heap.size, .slice none 0 0, []⟩)) n ∧
    Gs w ((w.alloc (.cells #[.slice none 0 0, .pointer none, .pointer none] 30)).setCell ⟨d.g, 1 + c, none⟩ (.pointer (some ⟨w.heap.size, 0, none⟩))) T (upT T (p ++ [c]) (some ⟨w.heap.size, .slice none 0 0, []⟩)) := by
  obtain ⟨N, hN⟩ : ∃ N : Nd, N = ⟨w.heap.size, .slice none 0 0, []⟩ := ⟨_, rfl⟩
  have hNg : N.g = w.heap.size := by rw [hN]
  have hNv : N.v = .slice none 0 0 := by rw [hN]
  have hNr : N.rs = [] := by rw [hN]
  have hNo : N.v.ownBlock = none := by rw [hNv]; rfl
  rw [← hN]
  have A := h.nx (al (rf w) (.cells #[.slice none 0 0, .pointer none, .pointer none] 30))
  have bw := al (rf w) (.cells #[.slice none 0 0, .pointer none, .pointer none] 30)
  have NB := Blk.new w 30 #[.slice none 0 0, .pointer none, .pointer none]
  generalize w.alloc (.cells #[.slice none 0 0, .pointer none, .pointer none] 30) = W at A NB bw ⊢
  have P : ∀ q e, upT T (p ++ [c]) (some N) q = some e → (q = p ++ [c] ∧ e = N) ∨ (q ≠ p ++ [c] ∧ T q = some e) := fun q e he => by
    by_cases hq : q = p ++ [c]
    · subst hq
      rw [upT_at] at he
      injection he with he
      exact .inl ⟨rfl, he.symm⟩
    · rw [upT_ne hq] at he
      exact .inr ⟨hq, he⟩
  have hlt : ∀ q e, T q = some e → e.g < w.heap.size := fun q e he => h.lt he
  have hkN : ∀ e, T (p ++ [c] ++ [e]) = none := fun e => by
    cases hT : T (p ++ [c] ++ [e]) with
    | none => rfl
    | some x => have := h.pre (p ++ [c]) e (by rw [hT]; rfl); rw [hn] at this; cases this
  have kv1 : ∀ e, kidV (upT T (p ++ [c]) (some N)) (p ++ [c]) e = .pointer none := fun e => kidV_none (by rw [upT_ne (app_ne _ _)]; exact hkN e)
  have kv2 : ∀ q, q ≠ p → q ≠ p ++ [c] → ∀ e, kidV (upT T (p ++ [c]) (some N)) q e = kidV T q e := fun q hq _ e => by
    unfold kidV
    rw [upT_ne (fun e2 => hq (app_inj e2).1)]
  have kv3 : kidV (upT T (p ++ [c]) (some N)) p c = .pointer (some ⟨w.heap.size, 0, none⟩) := by rw [kidV_some (d := N) upT_at, hNg]
  have kv4 : ∀ e, e ≠ c → kidV (upT T (p ++ [c]) (some N)) p e = kidV T p e := fun e he => by
    unfold kidV
    rw [upT_ne (fun e2 => he (app_inj e2).2)]
  have hdW : d.g < w.heap.size := h.lt hd
  have hk : KeepS (fun i => i = d.g) W (W.setCell ⟨d.g, 1 + c, none⟩ (.pointer (some ⟨w.heap.size, 0, none⟩))) := KeepS.set (S := fun i => i = d.g) (p := ⟨d.g, 1 + c, none⟩) rfl _
  constructor
  · refine IsT.of ?_ ?_ ?_ ?_ ?_ ?_ ?_ ?_
    · obtain ⟨r, h1, h2⟩ := h.root
      exact ⟨r, by rw [upT_ne (by simp)]; exact h1, h2⟩
    · intro q e he
      replace he := P q e he
      rcases he with ⟨rfl, rfl⟩ | ⟨hq, he⟩
      · have h3 := NB.far (p := ⟨d.g, 1 + c, none⟩) (Nat.ne_of_gt hdW) (.pointer (some ⟨w.heap.size, 0, none⟩))
        unfold csN tyN
        rw [kv1, kv1, if_neg (by simp), if_neg (by simp), hNg, hNv]
        exact h3
      · by_cases hp : q = p
        · subst hp
          rw [hd] at he
          injection he with he
          subst he
          have h3 := (A.all hd).set_ (1 + c) (.pointer (some ⟨w.heap.size, 0, none⟩))
          rw [set_kid hc kv3 kv4] at h3
          exact h3
        · rw [csN_congr (kv2 q hp hq)]
          exact (A.all he).far (p := ⟨d.g, 1 + c, none⟩) (h.inj q p e d he hd hp) _
    · intro q e he
      replace he := P q e he
      rcases he with ⟨rfl, rfl⟩ | ⟨hq, he⟩
      · rw [hNv, hNr]
        exact World.ownsRow_nil _ _ _ _
      · exact hk.own (A.own q e he) (fun g hg e2 => A.row_ne he hd (by rw [hg, e2]))
    · intro q s e f he hf hqs
      replace he := P q e he
      rcases he with ⟨rfl, rfl⟩ | ⟨hq, he⟩
      · replace hf := P s f hf
        rcases hf with ⟨rfl, rfl⟩ | ⟨hs, hf⟩
        · exact absurd rfl hqs
        · rw [hNg]; have := hlt s f hf; omega
      · replace hf := P s f hf
        rcases hf with ⟨rfl, rfl⟩ | ⟨hs, hf⟩
        · rw [hNg]; have := hlt q e he; omega
        · exact h.inj _ _ e f he hf hqs
    · intro q s e f he hf hqs
      replace he := P q e he
      rcases he with ⟨rfl, rfl⟩ | ⟨hq, he⟩
      · exact .inl hNo
      · replace hf := P s f hf
        rcases hf with ⟨rfl, rfl⟩ | ⟨hs, hf⟩
        · rw [hNo]
          cases e.v.ownBlock with
          | none => exact .inl rfl
          | some x => exact .inr (by simp)
        · exact h.rows _ _ e f he hf hqs
    · intro q e hq
      by_cases h1 : q ++ [e] = p ++ [c]
      · have := app_inj h1
        rw [this.1, upT_ne (Ne.symm (app_ne _ _)), hd]
        rfl
      · rw [upT_ne h1] at hq
        have h2 := h.pre q e hq
        by_cases h3 : q = p ++ [c]
        · rw [h3, hn] at h2; cases h2
        · rw [upT_ne h3]; exact h2
    · intro q e he
      replace he := P q e he
      rcases he with ⟨rfl, rfl⟩ | ⟨hq, he⟩
      · refine ⟨by simp; omega, fun x hx => ?_⟩
        rcases List.mem_append.1 hx with hx | hx
        · exact (h.bits p d hd).2 x hx
        · simp at hx; omega
      · exact h.bits q e he
    · intro q e he
      replace he := P q e he
      rcases he with ⟨rfl, rfl⟩ | ⟨hq, he⟩
      · rw [hNg]; exact hB
      · exact h.hb q e he
  · refine ⟨(KeepS.of_below bw).trans (KeepS.set (S := Foot T) (p := ⟨d.g, 1 + c, none⟩) ⟨p, d, hd, .inl rfl⟩ _) (fun _ _ h => h), ?_⟩
    rintro i ⟨q, e, he, hi⟩
    replace he := P q e he
    rcases he with ⟨rfl, rfl⟩ | ⟨hq, he⟩
    · rcases hi with rfl | hi
      · exact .inr (by rw [hNg]; exact Nat.le_refl _)
      · rw [hNo] at hi; cases hi
    · exact .inl ⟨q, e, he, hi⟩
-- a node that has no node beneath it is taken away
theorem IsT.cut (h : IsT w B t T n) {p : List Nat} {d : Nd} (hd : T p = some d) {c : Nat} (hc : c < 2) (hn : ∀ e, T (p ++ [c] ++ [e]) = none) :
    IsT (w.setCell ⟨d.g, 1 + c, none⟩ (.pointer none)) B t (upT T (p ++ [c]) none) n ∧ Gs w (w.setCell ⟨d.g, 1 + c, none⟩ (.pointer none)) T (upT T (p ++ [c]) none) := by
  have P : ∀ q e, upT T (p ++ [c]) none q = some e → q ≠ p ++ [c] ∧ T q = some e := fun q e he => by
    by_cases hq : q = p ++ [c]
    · subst hq
      rw [upT_at] at he
      cases he
    · rw [upT_ne hq] at he
      exact ⟨hq, he⟩
  have kv2 : ∀ q, q ≠ p → ∀ e, kidV (upT T (p ++ [c]) none) q e = kidV T q e := fun q hq e => by
    unfold kidV
    rw [upT_ne (fun e2 => hq (app_inj e2).1)]
  have kv3 : kidV (upT T (p ++ [c]) none) p c = .pointer none := kidV_none upT_at
  have kv4 : ∀ e, e ≠ c → kidV (upT T (p ++ [c]) none) p e = kidV T p e := fun e he => by
    unfold kidV
    rw [upT_ne (fun e2 => he (app_inj e2).2)]
  have hk : KeepS (fun i => i = d.g) w (w.setCell ⟨d.g, 1 + c, none⟩ (.pointer none)) := KeepS.set (S := fun i => i = d.g) (p := ⟨d.g, 1 + c, none⟩) rfl _
  constructor
  · refine IsT.of ?_ ?_ ?_ ?_ ?_ ?_ ?_ ?_
    · obtain ⟨r, h1, h2⟩ := h.root
      exact ⟨r, by rw [upT_ne (by simp)]; exact h1, h2⟩
    · intro q e he
      replace he := P q e he
      obtain ⟨hq, he⟩ := he
      by_cases hp : q = p
      · subst hp
        rw [hd] at he
        injection he with he
        subst he
        have h3 := (h.all hd).set_ (1 + c) (.pointer none)
        rw [set_kid hc kv3 kv4] at h3
        exact h3
      · rw [csN_congr (kv2 q hp)]
        exact (h.all he).far (p := ⟨d.g, 1 + c, none⟩) (h.inj q p e d he hd hp) _
    · intro q e he
      replace he := P q e he
      obtain ⟨hq, he⟩ := he
      exact hk.own (h.own q e he) (fun g hg e2 => h.row_ne he hd (by rw [hg, e2]))
    · intro q s e f he hf hqs
      exact h.inj _ _ e f (P q e he).2 (P s f hf).2 hqs
    · intro q s e f he hf hqs
      exact h.rows _ _ e f (P q e he).2 (P s f hf).2 hqs
    · intro q e hq
      have h1 : q ++ [e] ≠ p ++ [c] := fun h1 => by rw [h1, upT_at] at hq; cases hq
      rw [upT_ne h1] at hq
      by_cases h3 : q = p ++ [c]
      · rw [h3, hn] at hq; cases hq
      · rw [upT_ne h3]; exact h.pre q e hq
    · intro q e he
      exact h.bits q e (P q e he).2
    · intro q e he
      exact h.hb q e (P q e he).2
  · refine ⟨KeepS.set (S := Foot T) (p := ⟨d.g, 1 + c, none⟩) ⟨p, d, hd, .inl rfl⟩ _, ?_⟩
    rintro i ⟨q, e, he, hi⟩
    exact .inl ⟨q, e, (P q e he).2, hi⟩
end
end Go.Proofs.Ytmboadgmhafedaa
