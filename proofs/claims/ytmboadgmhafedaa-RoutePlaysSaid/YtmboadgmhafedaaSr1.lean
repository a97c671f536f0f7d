/-
  slices.SortStableFunc at routes, 1: rows that are stored into; the comparison; swapRange.
-/
import Derived.Test.YtmboadgmhafedaaBsR
import Derived.Test.YtmboadgmhafedaaKpt
import Derived.Test.YtmboadgmhafedaaMem
import Derived.BigRegion
set_option linter.unusedVariables false
namespace Go.Proofs.Ytmboadgmhafedaa
open Go.RowKit

theorem flat_set1 {ws : List R4} {i : Nat} {r r' : R4} (hr : ws[i]? = some r) (j : Nat) (hj : j < 4) (u : Value) (h : r.cs.set j u = r'.cs) : (flat ws).set (i * 4 + j) u = flat (ws.set i r') := by
  induction ws generalizing i with
  | nil => simp at hr
  | cons q ws ih =>
    unfold flat at ih ⊢
    rw [List.flatMap_cons]
    cases i with
    | zero =>
      simp only [List.getElem?_cons_zero, Option.some.injEq] at hr
      subst hr
      rw [Nat.zero_mul, Nat.zero_add, List.set_cons_zero, List.flatMap_cons, List.set_append, if_pos (by rw [cs_len]; exact hj), h]
    | succ i =>
      rw [List.getElem?_cons_succ] at hr
      rw [List.set_cons_succ, List.flatMap_cons, List.set_append, if_neg (by rw [cs_len]; omega), cs_len, show (i + 1) * 4 + j - 4 = i * 4 + j by omega, ih hr]
theorem OwnL.set1 {w : World} {B g n c : Nat} {ws : List R4} (h : OwnL w B (.slice (some ⟨g, 0, none⟩) n c) ws) {i : Nat} {r r' : R4} (hr : ws[i]? = some r) (j : Nat) (hj : j < 4) (u : Value) (he : r.cs.set j u = r'.cs) : OwnL (w.setCell ⟨g, i * 4 + j, none⟩ u) B (.slice (some ⟨g, 0, none⟩) n c) (ws.set i r') := by
  have hn : n = ws.length := by
    rcases h.2 with ⟨h1, _⟩ | ⟨_, _, _, h1, _⟩
    · injection h1 with h1; cases h1
    · injection h1
  subst hn
  have := (World.ownsRow.stored h (i * 4 + j) u).1
  unfold OwnL
  rw [List.length_set, ← flat_set1 hr j hj u he]
  exact this
-- the world where element i has been laid anew
def put4 (w : World) (g i : Nat) (r : R4) : World := (((w.setCell ⟨g, i * 4, none⟩ (.int .u32 r.x)).setCell ⟨g, i * 4 + 1, none⟩ (.int .i64 r.y)).setCell ⟨g, i * 4 + 2, none⟩ (.int .u32 r.z)).setCell ⟨g, i * 4 + 3, none⟩ (.int .i64 r.u)
theorem get_set {ws : List R4} {i : Nat} {r q : R4} (h : ws[i]? = some r) : (ws.set i q)[i]? = some q := by
  rw [List.getElem?_set, if_pos rfl, if_pos (List.getElem?_eq_some_iff.1 h).1]
theorem OwnL.put {w : World} {B g n c : Nat} {ws : List R4} (h : OwnL w B (.slice (some ⟨g, 0, none⟩) n c) ws) {i : Nat} {r : R4} (hr : ws[i]? = some r) (q : R4) : OwnL (put4 w g i q) B (.slice (some ⟨g, 0, none⟩) n c) (ws.set i q) := by
  unfold put4
  have s0 := h.set1 hr 0 (by omega) (.int .u32 q.x) (r' := { r with x := q.x }) rfl
  have s1 := s0.set1 (get_set hr) 1 (by omega) (.int .i64 q.y) (r' := { r with x := q.x, y := q.y }) rfl
  rw [List.set_set] at s1
  have s2 := s1.set1 (get_set hr) 2 (by omega) (.int .u32 q.z) (r' := { r with x := q.x, y := q.y, z := q.z }) rfl
  rw [List.set_set] at s2
  have s3 := s2.set1 (get_set hr) 3 (by omega) (.int .i64 q.u) (r' := q) rfl
  rw [List.set_set] at s3
  exact s3
theorem OwnL.base_ {w : World} {B g n c : Nat} {ws : List R4} (h : OwnL w B (.slice (some ⟨g, 0, none⟩) n c) ws) : ∃ cur, Blk w g 36 cur ∧ B ≤ g := by
  rcases h.2 with ⟨h1, _⟩ | ⟨g', _, cur, h1, hb, hg, _⟩
  · injection h1 with h1; cases h1
  · injection h1 with h1; injection h1 with h1; injection h1 with h1; subst h1; exact ⟨_, hg, hb⟩
theorem put4_only {a w : World} {g : Nat} (h : a.grownBy w (some g)) (i : Nat) (q : R4) : a.grownBy (put4 w g i q) (some g) := by
  unfold put4
  exact only_setCell (only_setCell (only_setCell (only_setCell h (.inl rfl) _) (.inl rfl) _) (.inl rfl) _) (.inl rfl) _
def cmpV : Value := .func (Fn.func 25) #[] #[]
theorem all2K (a b : R4) (w : World) : Calls Try.prog 25 #[.agg a.cs.toArray, .agg b.cs.toArray] w fun e w' => e = .returned (.int .i64 (cmp3 b.y a.y)) ∧ Below w.heap.size w w' := by
  unfold R4.cs
  go_enter Try.func25, Try.ntmps25
  go_wp2_with fail
  refine (cmpK b.y a.y _).mono ?_
  rintro e w' ⟨rfl, rfl⟩
  go_wp2
  go_ret
  exact ⟨rfl, al (al (rf w) _) _⟩
def sw (L : List R4) (i j : Nat) : List R4 := match L[i]?, L[j]? with
  | some x, some y => (L.set i y).set j x
  | _, _ => L
theorem sw_eq {L : List R4} {i j : Nat} {x y : R4} (hi : L[i]? = some x) (hj : L[j]? = some y) : sw L i j = (L.set i y).set j x := by unfold sw; rw [hi, hj]
theorem sw_len (L : List R4) (i j : Nat) : (sw L i j).length = L.length := by
  unfold sw
  split
  · rw [List.length_set, List.length_set]
  · rfl
def swR (L : List R4) (a b : Nat) : Nat → List R4
  | 0 => L
  | k + 1 => swR (sw L a b) (a + 1) (b + 1) k
def SrP (w : World) (B g n c : Nat) (L : List R4) (e : Ending) (w' : World) : Prop := e = .returned (.tuple #[]) ∧ OwnL w' B (.slice (some ⟨g, 0, none⟩) n c) L ∧ w.grownBy w' (some g)
theorem OwnL.cells {w : World} {base : Nat} {A : Option Addr} {n c : Nat} {ws : List R4} (h : OwnL w base (.slice A n c) ws) {i : Nat} {r : R4} (hi : ws[i]? = some r) : ∃ g, A = some ⟨g, 0, none⟩ ∧ base ≤ g ∧ w.cell? ⟨g, i * 4, none⟩ = some (.int .u32 r.x) ∧ w.cell? ⟨g, i * 4 + 1, none⟩ = some (.int .i64 r.y) ∧ w.cell? ⟨g, i * 4 + 2, none⟩ = some (.int .u32 r.z) ∧ w.cell? ⟨g, i * 4 + 3, none⟩ = some (.int .i64 r.u) := by
  obtain ⟨g, c', hv, _, hb, _, hc⟩ := h.at_ hi
  injection hv with h1 _ _
  exact ⟨g, h1, hb, hc 0 _ rfl, hc 1 _ rfl, hc 2 _ rfl, hc 3 _ rfl⟩
theorem OwnL.len {w : World} {B g n c : Nat} {ws : List R4} (h : OwnL w B (.slice (some ⟨g, 0, none⟩) n c) ws) : ws.length = n := by
  rcases h.2 with ⟨h1, _⟩ | ⟨_, _, _, h1, _⟩
  · injection h1 with h1; cases h1
  · injection h1 with _ h1; exact h1.symm
theorem OwnL.fro {w : World} {B g n c : Nat} {ws : List R4} (h : OwnL w B (.slice (some ⟨g, 0, none⟩) n c) ws) (i : Nat) : w.frozen? ⟨g, i, none⟩ = false := by
  rcases h.2 with ⟨h1, _⟩ | ⟨g', _, cur, h1, _, hg, _⟩
  · injection h1 with h1; cases h1
  · injection h1 with h1; injection h1 with h1; injection h1 with h1; subst h1; exact Blk.frozen hg i
set_option maxRecDepth 10000 in
set_option maxHeartbeats 3200000 in
theorem swapRangeK (w : World) {B g n c : Nat} {L : List R4} (o : OwnL w B (.slice (some ⟨g, 0, none⟩) n c) L) (a b k : Nat) (hab : a + k ≤ b) (hb : b + k ≤ n) (hn : n ≤ 1000) :
    Calls Try.prog 43 #[.slice (some ⟨g, 0, none⟩) n c, .int .i64 a, .int .i64 b, .int .i64 k, cmpV] w fun e w' => SrP w B g n c (swR L a b k) e w' := by
  have HO := Lib.hid o
  clear o
  unfold cmpV
  go_enter Try.func43, Try.ntmps43
  go_wp2
  go_loopw [10] (fun iv wr => ∃ (i : Nat) (M : List R4), iv = .int .i64 i ∧ i ≤ k ∧ Hid (OwnL wr B (.slice (some ⟨g, 0, none⟩) n c) M) ∧ Hid (swR M (a + i) (b + i) (k - i) = swR L a b k) ∧ Hid (w.grownBy wr (some g))) (fun iv _ => k - (intOf iv).toNat)
  case atStart => exact ⟨0, L, rfl, Nat.zero_le _, HO.out, rfl, World.grownBy.refl _ _⟩
  case round =>
    obtain ⟨i, M, rfl, hi, OM, EM, GM⟩ := hrel
    by_cases hik : i < k
    · have i0 : (0 : Int) ≤ i := by omega
      have i1 : (i : Int) < k := by omega
      have hl := OM.out.len
      obtain ⟨x, hx⟩ : ∃ x, M[a + i]? = some x := ⟨_, List.getElem?_eq_getElem (by omega)⟩
      obtain ⟨y, hy⟩ : ∃ y, M[b + i]? = some y := ⟨_, List.getElem?_eq_getElem (by omega)⟩
      obtain ⟨_, hA, _, x0, x1, x2, x3⟩ := OM.out.cells hx
      injection hA with hA; injection hA with hA; subst hA
      obtain ⟨_, hA, _, y0, y1, y2, y3⟩ := OM.out.cells hy
      injection hA with hA; injection hA with hA; subst hA
      have f0 := OM.out.fro ((a + i) * 4)
      have f1 := OM.out.fro ((a + i) * 4 + 1)
      have f2 := OM.out.fro ((a + i) * 4 + 2)
      have f3 := OM.out.fro ((a + i) * 4 + 3)
      have e0 := OM.out.fro ((b + i) * 4)
      have e1 := OM.out.fro ((b + i) * 4 + 1)
      have e2 := OM.out.fro ((b + i) * 4 + 2)
      have e3 := OM.out.fro ((b + i) * 4 + 3)
      have a0 : (0 : Int) ≤ (a : Int) + i := by omega
      have a1 : (a : Int) + i < n := by omega
      have b0 : (0 : Int) ≤ (b : Int) + i := by omega
      have b1 : (b : Int) + i < n := by omega
      have ta : ((a : Int) + i).toNat = a + i := by omega
      have tb : ((b : Int) + i).toNat = b + i := by omega
      have hne : (M.set (a + i) y)[b + i]? = some y := by rw [List.getElem?_set, if_neg (by omega)]; exact hy
      have O2 : Hid (OwnL (put4 (put4 wr g (a + i) y) g (b + i) x).drew B (.slice (some ⟨g, 0, none⟩) n c) ((M.set (a + i) y).set (b + i) x)) := World.ownsRow.drew ((OM.out.put hx y).put hne x)
      have G2 : Hid (w.grownBy (put4 (put4 wr g (a + i) y) g (b + i) x).drew (some g)) := only_drew (put4_only (put4_only GM.out _ _) _ _)
      have E2 : Hid (swR (sw M (a + i) (b + i)) (a + (i + 1)) (b + (i + 1)) (k - (i + 1)) = swR L a b k) := by
        show _ = _
        rw [← EM.out]
        obtain ⟨d, hdd⟩ : ∃ d, k - i = d + 1 := ⟨k - i - 1, by omega⟩
        rw [hdd, show k - (i + 1) = d by omega]
        rfl
      have hsw := sw_eq hx hy
      rw [← hsw] at O2
      clear hne hsw hx hy hl
      go_wp2
      go_region
      go_wp2
      go_roundw
      case rel => exact ⟨i + 1, _, by go_num, by omega, O2.out, E2.out, G2.out⟩
      case measure => simp [intOf]; omega
    · obtain rfl : i = k := by omega
      have hE : SrP w B g n c (swR L a b i) (.returned (.tuple #[])) wr := by
        have h := EM.out
        rw [Nat.sub_self] at h
        refine ⟨rfl, ?_, GM.out⟩
        rw [← h]
        exact OM.out
      have HE := Lib.hid hE
      clear hE
      go_wp2
      go_end0
      exact HE.out
end Go.Proofs.Ytmboadgmhafedaa
