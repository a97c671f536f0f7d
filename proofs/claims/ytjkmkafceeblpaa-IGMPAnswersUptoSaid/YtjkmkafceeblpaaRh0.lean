/-
  Groups, the reference: rows of members. Printed by gen_rh0.py.
-/
import Derived.Test.YtjkmkafceeblpaaHg5
import Derived.Test.YtjkmkafceeblpaaHg6
set_option linter.unusedVariables false
namespace Go.Proofs.Ytjkmkafceeblpaa
open Go.RowKit

structure Mb where
  (g : Int)
  (timed : Bool)
  (at_ : Int)
  (ours : Bool)
def Mb.cs (r : Mb) : List Value := [.int .u32 r.g, .bool r.timed, .int .i64 r.at_, .bool r.ours]
theorem stMb : SliceTy Try.prog 57 96 4 24 (.agg #[.int .u32 0, .bool false, .int .i64 0, .bool false]) := ⟨Try.underlying57, by kernel_rfl, rfl, by omega⟩
theorem cs_lenB (r : Mb) : r.cs.length = 4 := rfl
def flatB (ws : List Mb) : List Value := ws.flatMap Mb.cs
theorem flatB_len (ws : List Mb) : (flatB ws).length = ws.length * 4 := by
  induction ws with
  | nil => rfl
  | cons r ws ih => unfold flatB at ih ⊢; rw [List.flatMap_cons, List.length_append, ih, cs_lenB, List.length_cons]; omega
theorem flatB_at {ws : List Mb} {i : Nat} {r : Mb} (h : ws[i]? = some r) (j : Nat) (hj : j < 4) : (flatB ws)[i * 4 + j]? = r.cs[j]? := by
  induction ws generalizing i with
  | nil => simp at h
  | cons q ws ih =>
    unfold flatB at ih ⊢
    rw [List.flatMap_cons]
    cases i with
    | zero =>
      simp only [List.getElem?_cons_zero, Option.some.injEq] at h
      subst h
      rw [Nat.zero_mul, Nat.zero_add, List.getElem?_append_left (by rw [cs_lenB]; exact hj)]
    | succ i =>
      rw [List.getElem?_cons_succ] at h
      rw [List.getElem?_append_right (by rw [cs_lenB]; omega), cs_lenB, show (i + 1) * 4 + j - 4 = i * 4 + j by omega]
      exact ih h
theorem flatB_take (ws : List Mb) (i : Nat) : (flatB ws).take (i * 4) = flatB (ws.take i) := by
  induction ws generalizing i with
  | nil => simp [flatB]
  | cons q ws ih =>
    cases i with
    | zero => simp [flatB]
    | succ i =>
      unfold flatB at ih ⊢
      rw [List.take_succ_cons, List.flatMap_cons, List.flatMap_cons, List.take_append, List.take_of_length_le (by rw [cs_lenB]; omega), cs_lenB, show (i + 1) * 4 - 4 = i * 4 by omega, ih]
theorem flatB_drop (ws : List Mb) (i : Nat) : (flatB ws).drop (i * 4) = flatB (ws.drop i) := by
  induction ws generalizing i with
  | nil => simp [flatB]
  | cons q ws ih =>
    cases i with
    | zero => simp [flatB]
    | succ i =>
      unfold flatB at ih ⊢
      rw [List.drop_succ_cons, List.flatMap_cons, List.drop_append, List.drop_eq_nil_of_le (by rw [cs_lenB]; omega), cs_lenB, show (i + 1) * 4 - 4 = i * 4 by omega, ih, List.nil_append]
theorem flatB_app (a b : List Mb) : flatB (a ++ b) = flatB a ++ flatB b := by simp [flatB]
theorem flatB_one (ws : List Mb) : ∀ u ∈ flatB ws, u.oneCell' = true := fun u hu => by
  obtain ⟨r, _, hr⟩ := List.mem_flatMap.1 hu
  simp only [Mb.cs, List.mem_cons, List.not_mem_nil, or_false] at hr
  rcases hr with rfl | rfl | rfl | rfl <;> rfl
-- a row of one's own that holds such a list
def OwnB (w : World) (base : Nat) (v : Value) (ws : List Mb) : Prop := w.ownsRow base 96 4 v ws.length (flatB ws)
theorem OwnB.nx {w w' : World} {base : Nat} {v : Value} {ws : List Mb} (h : OwnB w base v ws) (k : Below w.heap.size w w') : OwnB w' base v ws := own_nx h k
theorem OwnB.at_ {w : World} {base : Nat} {v : Value} {ws : List Mb} (h : OwnB w base v ws) {i : Nat} {r : Mb} (hi : ws[i]? = some r) : ∃ g c, v = .slice (some ⟨g, 0, none⟩) ws.length c ∧ ws.length ≤ c ∧ base ≤ g ∧ g < w.heap.size ∧ ∀ j u, r.cs[j]? = some u → w.cell? ⟨g, i * 4 + j, none⟩ = some u := by
  have hlt : i < ws.length := (List.getElem?_eq_some_iff.1 hi).1
  rcases h.2 with ⟨_, h0⟩ | ⟨g, c, cur, rfl, hb, hg, hnc, hcm, hcl, htk⟩
  · omega
  · refine ⟨g, c, rfl, hnc, hb, Blk.lt hg, fun j u hu => ?_⟩
    have hj : j < 4 := by rw [← cs_lenB r]; exact (List.getElem?_eq_some_iff.1 hu).1
    rw [Blk.cell hg]
    have h1 := flatB_at hi j hj
    rw [← htk, List.getElem?_take, hu] at h1
    split at h1
    · rw [← Array.getElem?_toList]; exact h1
    · cases h1
theorem OwnB.form {w : World} {base : Nat} {v : Value} {ws : List Mb} (h : OwnB w base v ws) : ∃ A c, v = .slice A ws.length c ∧ ws.length ≤ c := by
  rcases h.2 with ⟨rfl, h0⟩ | ⟨g, c, cur, rfl, hb, hg, hnc, _⟩
  · exact ⟨none, 0, by rw [h0], by omega⟩
  · exact ⟨_, c, rfl, hnc⟩
theorem flatB_set {ws : List Mb} {i : Nat} {r r' : Mb} (hr : ws[i]? = some r) (j : Nat) (hj : j < 4) (u : Value) (h : r.cs.set j u = r'.cs) : (flatB ws).set (i * 4 + j) u = flatB (ws.set i r') := by
  induction ws generalizing i with
  | nil => simp at hr
  | cons q ws ih =>
    unfold flatB at ih ⊢
    cases i with
    | zero =>
      simp only [List.getElem?_cons_zero, Option.some.injEq] at hr
      subst hr
      rw [Nat.zero_mul, Nat.zero_add, List.flatMap_cons, List.set_append, if_pos (by rw [cs_lenB]; exact hj), h, List.set_cons_zero, List.flatMap_cons]
    | succ i =>
      rw [List.getElem?_cons_succ] at hr
      rw [List.flatMap_cons, List.set_append, if_neg (by rw [cs_lenB]; omega), cs_lenB, show (i + 1) * 4 + j - 4 = i * 4 + j by omega, ih hr, List.set_cons_succ, List.flatMap_cons]
theorem OwnB.set_ {w : World} {B g n c : Nat} {ws : List Mb} (h : OwnB w B (.slice (some ⟨g, 0, none⟩) n c) ws) {i : Nat} {r r' : Mb} (hr : ws[i]? = some r) (j : Nat) (hj : j < 4) (u : Value) (he : r.cs.set j u = r'.cs) : OwnB (w.setCell ⟨g, i * 4 + j, none⟩ u) B (.slice (some ⟨g, 0, none⟩) n c) (ws.set i r') := by
  have hn : n = ws.length := by
    rcases h.2 with ⟨h1, _⟩ | ⟨_, _, _, h1, _⟩
    · injection h1 with h1; cases h1
    · injection h1
  subst hn
  have := (World.ownsRow.stored h (i * 4 + j) u).1
  unfold OwnB
  rw [List.length_set, ← flatB_set hr j hj u he]
  exact this
theorem OwnB.cells {w : World} {base : Nat} {A : Option Addr} {n c : Nat} {ws : List Mb} (h : OwnB w base (.slice A n c) ws) {i : Nat} {r : Mb} (hi : ws[i]? = some r) : ∃ g, A = some ⟨g, 0, none⟩ ∧ base ≤ g ∧ w.cell? ⟨g, i * 4, none⟩ = some (.int .u32 r.g) ∧ w.cell? ⟨g, i * 4 + 1, none⟩ = some (.bool r.timed) ∧ w.cell? ⟨g, i * 4 + 2, none⟩ = some (.int .i64 r.at_) ∧ w.cell? ⟨g, i * 4 + 3, none⟩ = some (.bool r.ours) := by
  obtain ⟨g, c', hv, _, hb, _, hc⟩ := h.at_ hi
  injection hv with h1 _ _
  exact ⟨g, h1, hb, hc 0 _ rfl, hc 1 _ rfl, hc 2 _ rfl, hc 3 _ rfl⟩
end Go.Proofs.Ytjkmkafceeblpaa
