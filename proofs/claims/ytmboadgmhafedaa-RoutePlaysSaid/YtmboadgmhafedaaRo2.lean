/-
  Routes: two tables side by side; routes added one behind the other.
-/
import Derived.Test.YtmboadgmhafedaaRo1
set_option linter.unusedVariables false
namespace Go.Proofs.Ytmboadgmhafedaa
open Go.ChangeShapes Go.WideShapes Go.ChangeAt Go.RowKit

def addAll (l : List R4) : List R4 := l.foldl (fun L r => (addL L r).1) []
theorem addAll_nil : addAll [] = [] := rfl
theorem addAll_succ {l : List R4} {k : Nat} {r : R4} (h : l[k]? = some r) : addAll (l.take (k + 1)) = (addL (addAll (l.take k)) r).1 := by
  have hk := (List.getElem?_eq_some_iff.1 h).1
  have e : l.take (k + 1) = l.take k ++ [r] := by rw [List.take_add_one, h]; rfl
  unfold addAll
  rw [e, List.foldl_append]
  rfl
theorem addAll_ok {l : List R4} (h : ∀ r ∈ l, InU r) : TabOK (addAll l) := by
  have key : ∀ (l L : List R4), TabOK L → (∀ r ∈ l, InU r) → TabOK (l.foldl (fun L r => (addL L r).1) L) := by
    intro l
    induction l with
    | nil => intro L hL _; exact hL
    | cons r l ih => intro L hL hl; exact ih _ (hL.add (hl r List.mem_cons_self)) (fun q hq => hl q (List.mem_cons_of_mem _ hq))
  exact key l [] TabOK.nil h
theorem order_eq {l : List R4} (hl : l.length ≤ 64) (hu : ∀ r ∈ l, InU r) (hp : l.Pairwise (fun x y => ¬ keyP x y)) : addAll l = addAll l.reverse := by
  have h1 := adds_perm l [] TabOK.nil hu (by simpa using hl) (by simp) hp
  have hp2 : l.reverse.Pairwise (fun x y => ¬ keyP x y) := by
    rw [List.pairwise_reverse]
    exact hp.imp (fun h k => h k.symm)
  have h2 := adds_perm l.reverse [] TabOK.nil (fun r hr => hu r (by simpa using hr)) (by simpa using hl) (by simp) hp2
  refine ord_eq h1.2.ord h2.2.ord ?_
  refine h1.1.trans (List.Perm.trans ?_ h2.1.symm)
  rw [List.nil_append, List.nil_append]
  exact (List.reverse_perm l).symm.filter _
theorem pair_of {l : List R4} (h : ∀ (j m : Nat) (x y : R4), m < j → l[j]? = some x → l[m]? = some y → ¬ keyP x y) : l.Pairwise (fun x y => ¬ keyP x y) := by
  rw [List.pairwise_iff_getElem]
  intro i j hi hj hij k
  exact h j i l[j] l[i] hij (List.getElem?_eq_getElem hj) (List.getElem?_eq_getElem hi) k.symm
section
variable {w w' : World} {B t t2 : Nat} {L L2 : List R4} {T T' T2 : Tre}
theorem Tab.base (h : Tab w B t L T) {B' : Nat} (hB : B' ≤ B) : Tab w B' t L T :=
  ⟨⟨h.tr.root, h.tr.blk0, h.tr.blk, fun p d hd => own_base (h.tr.own p d hd) hB, h.tr.inj, h.tr.rows, h.tr.pre, h.tr.bits, fun p d hd => Nat.le_trans hB (h.tr.hb p d hd)⟩, h.ok, h.at_, Nat.le_trans hB h.hb⟩
theorem Tab.keep {S : Nat → Prop} (h : Tab w B t L T) (k : KeepS S w w') (hn : ∀ i, Foot T i → ¬ S i) : Tab w' B t L T := ⟨h.tr.keep k hn, h.ok, h.at_, Nat.le_trans h.hb k.size⟩
theorem Tab.other (h2 : Tab w B t2 L2 T2) (g : Gs w w' T T') (hd : ∀ i, Foot T i → ¬ Foot T2 i) : Tab w' B t2 L2 T2 ∧ ∀ i, Foot T' i → ¬ Foot T2 i :=
  ⟨h2.keep g.keep (fun i h1 h3 => hd i h3 h1), fun i h1 h3 => by
    rcases g.ft i h1 with h4 | h4
    · exact hd i h4 h3
    · have := (h2.tr.foot h3).2; omega⟩
theorem Gs.below (g : Gs w w' T T') (h : Tab w B t L T) : Below B w w' := g.keep.below (fun i hi => (h.tr.foot hi).1) h.hb
end
-- two tables, apart
structure Two (w : World) (B t t2 : Nat) (L L2 : List R4) : Prop where
  two : ∃ T T2, Tab w B t L T ∧ Tab w B t2 L2 T2 ∧ ∀ i, Foot T i → ¬ Foot T2 i
theorem Two.nx {w w' : World} {B t t2 : Nat} {L L2 : List R4} (h : Two w B t t2 L L2) (k : Below w.heap.size w w') : Two w' B t t2 L L2 := by
  obtain ⟨T, T2, h1, h2, h3⟩ := h.two
  exact ⟨T, T2, h1.nx k, h2.nx k, h3⟩
theorem Two.add1 {w : World} {B t t2 : Nat} {L L2 : List R4} (h : Two w B t t2 L L2) (r : R4) (hr : InU r) :
    Calls Try.prog 9 #[.pointer (some ⟨t, 0, none⟩), .agg #[.int .u32 r.x, .int .i64 r.y, .int .u32 r.z, .int .i64 r.u]] w fun e w' => e = .returned (.int .i64 (addL L r).2) ∧ Two w' B t t2 (addL L r).1 L2 ∧ Below B w w' := by
  obtain ⟨T, T2, h1, h2, h3⟩ := h.two
  refine (addK w h1 r hr).mono ?_
  rintro e w' ⟨T', rfl, k1, k2⟩
  have h4 := h2.other k2 h3
  exact ⟨rfl, ⟨T', T2, k1, h4.1, h4.2⟩, k2.below h1⟩
theorem Two.add2 {w : World} {B t t2 : Nat} {L L2 : List R4} (h : Two w B t t2 L L2) (r : R4) (hr : InU r) :
    Calls Try.prog 9 #[.pointer (some ⟨t2, 0, none⟩), .agg #[.int .u32 r.x, .int .i64 r.y, .int .u32 r.z, .int .i64 r.u]] w fun e w' => e = .returned (.int .i64 (addL L2 r).2) ∧ Two w' B t t2 L (addL L2 r).1 ∧ Below B w w' := by
  obtain ⟨T, T2, h1, h2, h3⟩ := h.two
  refine (addK w h2 r hr).mono ?_
  rintro e w' ⟨T', rfl, k1, k2⟩
  have h4 := h1.other k2 (fun i h5 h6 => h3 i h6 h5)
  exact ⟨rfl, ⟨T, T', h4.1, k1, fun i h5 h6 => h4.2 i h6 h5⟩, k2.below h2⟩
theorem two_new (w : World) : Two ((w.alloc (.cells #[.slice none 0 0, .pointer none, .pointer none, .int .i64 0] 32)).alloc (.cells #[.slice none 0 0, .pointer none, .pointer none, .int .i64 0] 32)) w.heap.size w.heap.size (w.heap.size + 1) [] [] := by
  have h1 := tab_new w
  have h2 := tab_new (w.alloc (.cells #[.slice none 0 0, .pointer none, .pointer none, .int .i64 0] 32))
  rw [show (w.alloc (.cells #[.slice none 0 0, .pointer none, .pointer none, .int .i64 0] 32)).heap.size = w.heap.size + 1 by simp] at h2
  refine ⟨T0 w, T0 _, h1.nx (al (rf _) _), h2.base (by omega), fun i h3 h4 => ?_⟩
  have a := (h1.tr.foot h3).2
  have b := (h2.tr.foot h4).1
  simp at a
  omega
end Go.Proofs.Ytmboadgmhafedaa
