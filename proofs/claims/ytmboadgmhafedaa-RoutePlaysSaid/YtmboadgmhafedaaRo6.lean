/-
  Routes: the program's table beside the reference's; a script's steps.
-/
import Derived.Test.YtmboadgmhafedaaRo5
import Derived.Test.YtmboadgmhafedaaRr7
set_option linter.unusedVariables false
namespace Go.Proofs.Ytmboadgmhafedaa
open Go.ChangeShapes Go.WideShapes Go.ChangeAt Go.RowKit

theorem KeepS.of_T {w w' : World} {ts : List TypeId} {B : Nat} (h : KeepT w.heap.size ts w w') (hb : Below B w w') : KeepS (fun i => ∃ o, w.heap[i]? = some o ∧ tyIn ts o) w w' :=
  ⟨hb.os, hb.tape, hb.output, hb.size, fun k hk hn => by
    have e : w.heap[k]? = some w.heap[k] := Array.getElem?_eq_getElem hk
    rw [e]
    exact h k _ hk e (fun ht => hn ⟨_, e, ht⟩)⟩
theorem IsT.ref_ne {w : World} {B t : Nat} {T : Tre} {n : Int} (h : IsT w B t T n) {i : Nat} (hf : Foot T i) : ¬ ∃ o, w.heap[i]? = some o ∧ tyIn [47] o := by
  rintro ⟨o, ho, ht⟩
  obtain ⟨p, d, hd, rfl | hr⟩ := hf
  · have h1 := h.all hd
    unfold Blk at h1
    rw [h1] at ho
    injection ho with ho
    subst ho
    simp only [tyIn, tyN, List.mem_singleton] at ht
    split at ht <;> exact absurd ht (by decide)
  · rcases (h.own p d hd).2 with ⟨h1, _⟩ | ⟨g, cap, cur, h1, _, hg, _⟩
    · rw [h1] at hr; simp [Value.ownBlock] at hr
    · rw [h1] at hr
      have : g = i := by simpa [Value.ownBlock] using hr
      subst this
      rw [hg] at ho
      injection ho with ho
      subst ho
      simp only [tyIn, List.mem_singleton] at ht
      exact absurd ht (by decide)
theorem IsT.foot_ty {w : World} {B t : Nat} {T : Tre} {n : Int} (h : IsT w B t T n) {i : Nat} (hf : Foot T i) {o : Obj} (ho : w.heap[i]? = some o) : tyIn [32, 30, 36, 47] o := by
  obtain ⟨p, d, hd, rfl | hr⟩ := hf
  · have h1 := h.all hd
    unfold Blk at h1
    rw [h1] at ho
    injection ho with ho
    subst ho
    simp only [tyIn, tyN]
    split <;> simp
  · rcases (h.own p d hd).2 with ⟨h1, _⟩ | ⟨g, cap, cur, h1, _, hg, _⟩
    · rw [h1] at hr; simp [Value.ownBlock] at hr
    · rw [h1] at hr
      have : g = i := by simpa [Value.ownBlock] using hr
      subst this
      rw [hg] at ho
      injection ho with ho
      subst ho
      simp [tyIn]
abbrev KB (w w' : World) : Prop := KeepT w.heap.size [32, 30, 36, 47] w w'
theorem Gs.kb {w w' : World} {B t : Nat} {T T' : Tre} {n : Int} (g : Gs w w' T T') (h : IsT w B t T n) : KB w w' := fun i o hi ho hn => by
  rw [g.keep.block i hi (fun hf => hn (h.foot_ty hf ho))]
  exact ho
-- both tables
def Bo (w : World) (B t t2 : Nat) (L L2 : List R4) : Prop := ∃ T v2, Tab w B t L T ∧ IsTr w B t2 L2 v2 ∧ ∀ g, v2.ownBlock = some g → ¬ Foot T g
section
variable {w w' : World} {B t t2 : Nat} {L L2 : List R4}
theorem Bo.nx (h : Bo w B t t2 L L2) (k : Below w.heap.size w w') : Bo w' B t t2 L L2 := by
  obtain ⟨T, v2, h1, h2, h3⟩ := h
  exact ⟨T, v2, h1.nx k, h2.nx k, h3⟩
theorem Bo.hb (h : Bo w B t t2 L L2) : B ≤ w.heap.size := by
  obtain ⟨T, v2, h1, h2, h3⟩ := h
  exact h1.hb
theorem Bo.ok (h : Bo w B t t2 L L2) : TabOK L := by
  obtain ⟨T, v2, h1, h2, h3⟩ := h
  exact h1.ok
theorem Bo.prog {T T' : Tre} {v2 : Value} {L' : List R4} (h1 : Tab w B t L T) (h2 : IsTr w B t2 L2 v2) (h3 : ∀ g, v2.ownBlock = some g → ¬ Foot T g) (k1 : Tab w' B t L' T') (k2 : Gs w w' T T') : Bo w' B t t2 L' L2 := by
  have ht : ¬ Foot T t2 := fun hf => h1.tr.ref_ne hf ⟨_, h2.tab, by simp [tyIn]⟩
  refine ⟨T', v2, k1, ⟨k2.keep.blk h2.tab ht, k2.keep.own h2.own h3, h2.hb⟩, fun g hg hf => ?_⟩
  rcases k2.ft g hf with h4 | h4
  · exact h3 g hg h4
  · have := (own_lo h2.own hg).2; omega
theorem Bo.ref {e : Ending} {err : Int} {L' : List R4} {T : Tre} {v2 : Value} (h1 : Tab w B t L T) (h2 : IsTr w B t2 L2 v2) (h3 : ∀ g, v2.ownBlock = some g → ¬ Foot T g) (k : RqP w B t2 v2 L' err e w') : e = .returned (.int .i64 err) ∧ Bo w' B t t2 L L' ∧ Below B w w' ∧ KB w w' := by
  obtain ⟨v, rfl, o, b, kt, cl⟩ := k
  refine ⟨rfl, ⟨T, v, h1.keep (KeepS.of_T kt b) (fun i hf => h1.tr.ref_ne hf), o, fun g hg hf => ?_⟩, b, kt.mono (by simp)⟩
  rcases cl g hg with h4 | h4
  · exact h3 g (by rw [← h4]; exact hg) hf
  · have := (h1.tr.foot hf).2; omega
theorem Bo.padd (h : Bo w B t t2 L L2) (r : R4) (hr : InU r) :
    Calls Try.prog 9 #[.pointer (some ⟨t, 0, none⟩), .agg #[.int .u32 r.x, .int .i64 r.y, .int .u32 r.z, .int .i64 r.u]] w fun e w' => e = .returned (.int .i64 (addL L r).2) ∧ Bo w' B t t2 (addL L r).1 L2 ∧ Below B w w' ∧ KB w w' := by
  obtain ⟨T, v2, h1, h2, h3⟩ := h
  refine (addK w h1 r hr).mono ?_
  rintro e w' ⟨T', rfl, k1, k2⟩
  exact ⟨rfl, Bo.prog h1 h2 h3 k1 k2, k2.below h1, k2.kb h1.tr⟩
theorem Bo.prem (h : Bo w B t t2 L L2) (r : R4) (hr : InU r) :
    Calls Try.prog 15 #[.pointer (some ⟨t, 0, none⟩), .agg #[.int .u32 r.x, .int .i64 r.y, .int .u32 r.z, .int .i64 r.u]] w fun e w' => e = .returned (.int .i64 (remL L r).2) ∧ Bo w' B t t2 (remL L r).1 L2 ∧ Below B w w' ∧ KB w w' := by
  obtain ⟨T, v2, h1, h2, h3⟩ := h
  refine (remK w h1 r hr).mono ?_
  rintro e w' ⟨T', rfl, k1, k2⟩
  exact ⟨rfl, Bo.prog h1 h2 h3 k1 k2, k2.below h1, k2.kb h1.tr⟩
theorem Bo.radd (h : Bo w B t t2 L L2) (h2ok : TabOK L2) (r : R4) (hr : InU r) :
    Calls Try.prog 14 #[.pointer (some ⟨t2, 0, none⟩), .agg #[.int .u32 r.x, .int .i64 r.y, .int .u32 r.z, .int .i64 r.u]] w fun e w' => e = .returned (.int .i64 (addL L2 r).2) ∧ Bo w' B t t2 L (addL L2 r).1 ∧ Below B w w' ∧ KB w w' := by
  obtain ⟨T, v2, h1, h2, h3⟩ := h
  refine (raddL w h2 h2ok r hr h1.hb).mono ?_
  intro e w' k
  exact Bo.ref h1 h2 h3 k
theorem Bo.rrem (h : Bo w B t t2 L L2) (h2ok : TabOK L2) (r : R4) :
    Calls Try.prog 16 #[.pointer (some ⟨t2, 0, none⟩), .agg #[.int .u32 r.x, .int .i64 r.y, .int .u32 r.z, .int .i64 r.u]] w fun e w' => e = .returned (.int .i64 (remL L2 r).2) ∧ Bo w' B t t2 L (remL L2 r).1 ∧ Below B w w' ∧ KB w w' := by
  obtain ⟨T, v2, h1, h2, h3⟩ := h
  refine (rremL w h2 h2ok r h1.hb).mono ?_
  intro e w' k
  exact Bo.ref h1 h2 h3 k
theorem Bo.pfind (h : Bo w B t t2 L L2) (a : Nat) (ha : a < 4294967296) :
    Calls Try.prog 10 #[.pointer (some ⟨t, 0, none⟩), .int .u32 a] w fun e w' => e = .returned (.tuple #[.agg (findL L a).1.cs.toArray, .int .i64 (findL L a).2]) ∧ Below w.heap.size w w' := by
  obtain ⟨T, v2, h1, h2, h3⟩ := h
  exact findK w h1 a ha
theorem Bo.rfind (h : Bo w B t t2 L L2) (h2ok : TabOK L2) (a : Nat) (ha : a < 4294967296) :
    Calls Try.prog 17 #[.pointer (some ⟨t2, 0, none⟩), .int .u32 a] w fun e w' => e = .returned (.tuple #[.agg (findL L2 a).1.cs.toArray, .int .i64 (findL L2 a).2]) ∧ Below w.heap.size w w' := by
  obtain ⟨T, v2, h1, h2, h3⟩ := h
  exact rfindC w h2 (Nat.le_trans h2ok.len (by decide)) h2ok.wf a ha
theorem Bo.all (h : Bo w B t t2 L L2) : Calls Try.prog 11 #[.pointer (some ⟨t, 0, none⟩)] w (AllP w L) := by
  obtain ⟨T, v2, h1, h2, h3⟩ := h
  exact allK w h1
theorem Bo.row (h : Bo w B t t2 L L2) : ∃ v2, OwnL w B v2 L2 ∧ ∀ w', Below w.heap.size w w' → w'.cell? ⟨t2, 0, none⟩ = some v2 ∧ OwnL w' B v2 L2 := by
  obtain ⟨T, v2, h1, h2, h3⟩ := h
  exact ⟨v2, h2.own, fun w' k => ⟨(h2.nx k).tab.cell 0, h2.own.nx k⟩⟩
end
theorem bo_new (w : World) : Bo ((w.alloc (.cells #[.slice none 0 0, .pointer none, .pointer none, .int .i64 0] 32)).alloc (.cells #[.slice none 0 0] 47)) w.heap.size w.heap.size (w.heap.size + 1) [] [] := by
  have h1 := tab_new w
  have h2 := Blk.new (w.alloc (.cells #[.slice none 0 0, .pointer none, .pointer none, .int .i64 0] 32)) 47 #[.slice none 0 0]
  rw [show (w.alloc (.cells #[.slice none 0 0, .pointer none, .pointer none, .int .i64 0] 32)).heap.size = w.heap.size + 1 by simp] at h2
  exact ⟨T0 w, .slice none 0 0, h1.nx (al (rf _) _), ⟨h2, World.ownsRow_nil _ _ _ _, by omega⟩, fun g hg => by simp [Value.ownBlock] at hg⟩
-- a script's step
structure Stq where
  (kind : Int) (r : R4) (a : Nat)
def Stq.cs (s : Stq) : List Value := [.int .i64 s.kind, .int .u32 s.r.x, .int .i64 s.r.y, .int .u32 s.r.z, .int .i64 s.r.u, .int .u32 s.a]
def Stq.ok (s : Stq) : Prop := InU s.r ∧ s.a < 4294967296
set_option maxRecDepth 100000 in
theorem trod_stq {H : Type} {enc : TypeId × Value → H} {w : World} {base : Nat} {sp : Nat → Bool} {held : Bool} {fuel : Nat} {cs : List Value} {x : DataW H × List MemPlace}
    (hsz : cs.length = 6) (hf : DataW.trod enc Try.prog w base sp held fuel 49 cs = some x) : ∃ s : Stq, cs = s.cs ∧ s.ok := by
  have hk := leaves_of (F := 6) (N := 6) (ks := [.int .i64, .int .u32, .int .i64, .int .u32, .int .i64, .int .u32]) hf (by kernel_rfl)
  match cs, hsz with
  | [x0, x1, x2, x3, x4, x5], _ =>
    obtain ⟨v0, e0, a0, h0, _⟩ := hk 0 _ rfl
    obtain rfl : x0 = v0 := by injection e0
    subst h0
    obtain ⟨v1, e1, a1, h1, w1⟩ := hk 1 _ rfl
    obtain rfl : x1 = v1 := by injection e1
    subst h1
    obtain ⟨v2, e2, a2, h2, _⟩ := hk 2 _ rfl
    obtain rfl : x2 = v2 := by injection e2
    subst h2
    obtain ⟨v3, e3, a3, h3, _⟩ := hk 3 _ rfl
    obtain rfl : x3 = v3 := by injection e3
    subst h3
    obtain ⟨v4, e4, a4, h4, _⟩ := hk 4 _ rfl
    obtain rfl : x4 = v4 := by injection e4
    subst h4
    obtain ⟨v5, e5, a5, h5, w5⟩ := hk 5 _ rfl
    obtain rfl : x5 = v5 := by injection e5
    subst h5
    have q := wf_u32 w5
    obtain ⟨m, rfl⟩ := Int.eq_ofNat_of_zero_le q.1
    exact ⟨⟨a0, ⟨a1, a2, a3, a4⟩, m⟩, rfl, wf_u32 w1, by show m < 4294967296; omega⟩
theorem open_stq {H : Type} {enc : TypeId × Value → H} {w : World} {base b0 : Nat} {r : Reach} {sp : Nat → Bool} {held : Bool} {v : Value} {d : DataW H} {p : List MemPlace}
    (hv : Value.okWide Try.prog w r b0 44 v) (h : DataW.Trod enc Try.prog w base sp held 44 v d p) :
    ∃ (A : Option Addr) (n c : Nat) (l : List (List Value)), v = .slice A n c ∧ n ≤ c ∧ c ≤ maxLen ∧ RowsAt w w.heap.size 6 A n l ∧ ∀ r ∈ l, ∃ s : Stq, r = s.cs ∧ s.ok :=
  open_rows Try.underlying44 (by kernel_rfl) (by decide) hv h (fun cs => ∃ s : Stq, cs = s.cs ∧ s.ok) (fun _ cs _ hl hx => trod_stq hl hx)
end Go.Proofs.Ytmboadgmhafedaa
