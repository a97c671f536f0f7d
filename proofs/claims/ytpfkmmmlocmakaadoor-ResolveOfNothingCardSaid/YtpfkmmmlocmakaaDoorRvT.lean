/-
  Resolve: stores into a question, its resolver and a call's work.
-/
import Derived.Test.YtpfkmmmlocmakaaDoorRvH
import Derived.Test.YtpfkmmmlocmakaaDoorRvI
set_option linter.unusedVariables false
namespace Go.Proofs.YtpfkmmmlocmakaaDoor
open Go.RowKit Go.Maps

-- w' is w but for the blocks g (a question) and rb (its resolver)
structure T4 (w w' : World) (g rb wb : Nat) (qc rc wc : Array Value) : Prop where
  hq : Blk w' g 68 qc
  hr : Blk w' rb 64 rc
  hw : Blk w' wb 71 wc
  same : ∀ i, i ≠ g → i ≠ rb → w'.heap[i]? = w.heap[i]?
  size : w'.heap.size = w.heap.size
  os : w'.os = w.os
  tape : w'.tape = w.tape
  output : w'.output = w.output
section
variable {w w' : World} {g rb wb : Nat} {qc rc wc : Array Value}
theorem T4.start (hq : Blk w g 68 qc) (hr : Blk w rb 64 rc) (hw : Blk w wb 71 wc) : T4 w w g rb wb qc rc wc :=
  ⟨hq, hr, hw, fun _ _ _ => rfl, rfl, rfl, rfl, rfl⟩
theorem T4.ngr (h : T4 w w' g rb wb qc rc wc) : g ≠ rb := h.hq.ne_ h.hr (by decide)
theorem T4.ngw (h : T4 w w' g rb wb qc rc wc) : g ≠ wb := h.hq.ne_ h.hw (by decide)
theorem T4.nrw (h : T4 w w' g rb wb qc rc wc) : rb ≠ wb := h.hr.ne_ h.hw (by decide)
theorem T4.setG (h : T4 w w' g rb wb qc rc wc) (i : Nat) (v : Value) : T4 w (w'.setCell ⟨g, i, none⟩ v) g rb wb (qc.setIfInBounds i v) rc wc :=
  ⟨h.hq.set_ i v, h.hr.far (p := ⟨g, i, none⟩) h.ngr.symm v, h.hw.far (p := ⟨g, i, none⟩) h.ngw.symm v, fun j h1 h2 => (Below.heap_setCell w' ⟨g, i, none⟩ v j h1).trans (h.same j h1 h2), by rw [← h.size]; simp [World.setCell], h.os, h.tape, h.output⟩
theorem T4.setR (h : T4 w w' g rb wb qc rc wc) (i : Nat) (v : Value) : T4 w (w'.setCell ⟨rb, i, none⟩ v) g rb wb qc (rc.setIfInBounds i v) wc :=
  ⟨h.hq.far (p := ⟨rb, i, none⟩) h.ngr v, h.hr.set_ i v, h.hw.far (p := ⟨rb, i, none⟩) h.nrw.symm v, fun j h1 h2 => (Below.heap_setCell w' ⟨rb, i, none⟩ v j h2).trans (h.same j h1 h2), by rw [← h.size]; simp [World.setCell], h.os, h.tape, h.output⟩
theorem T4.drew (h : T4 w w' g rb wb qc rc wc) : T4 w w'.drew g rb wb qc rc wc := ⟨h.hq, h.hr, h.hw, h.same, h.size, h.os, h.tape, h.output⟩
theorem T4.below {B : Nat} (h : T4 w w' g rb wb qc rc wc) (hg : B ≤ g) (hr : B ≤ rb) : Below B w w' :=
  ⟨h.os, h.tape, h.output, Nat.le_of_eq h.size.symm, fun i hi => h.same i (by omega) (by omega)⟩
theorem T4.keep {q0 r0 : Array Value} {n : Nat} (h : T4 w w' g rb wb qc rc wc) (hq : Blk w g 68 q0) (hr : Blk w rb 64 r0) : KeepT n [68, 64] w w' := fun i o hi ho hn => by
  by_cases h1 : i = g
  · subst h1
    unfold Blk at hq; rw [hq] at ho; injection ho with ho; subst ho
    exact absurd (by simp [tyIn]) hn
  · by_cases h2 : i = rb
    · subst h2
      unfold Blk at hr; rw [hr] at ho; injection ho with ho; subst ho
      exact absurd (by simp [tyIn]) hn
    · rw [h.same i h1 h2]; exact ho
end
def Rz.upd (z : Rz) (g : Nat) (q : Qn) : Rz := { z with qs := z.qs.map fun p => if p.1 = g then (g, q) else p }
theorem Rz.upd_fst (z : Rz) (g : Nat) (q : Qn) : (z.upd g q).qs.map (·.1) = z.qs.map (·.1) := by
  unfold Rz.upd
  simp only [List.map_map]
  refine List.map_congr_left fun p _ => ?_
  show (if p.1 = g then (g, q) else p).1 = p.1
  split
  · rename_i h; exact h.symm
  · rfl
theorem Rz.upd_len (z : Rz) (g : Nat) (q : Qn) : (z.upd g q).qs.length = z.qs.length := by unfold Rz.upd; simp
theorem map_ptr (l : List (Nat × Qn)) : l.map (fun p => ptr p.1) = (l.map (·.1)).map ptr := by simp
theorem IsRv.of4 {w w' : World} {B g rb wb : Nat} {z : Rz} {q' : Qn} {s : Int} {wc : Array Value} (h : IsRv w B rb z) (t : T4 w w' g rb wb q'.cs ({ z with sent := s } : Rz).cs wc) (hg : ∃ q, (g, q) ∈ z.qs) : IsRv w' B rb { z.upd g q' with sent := s } := by
  obtain ⟨q, hm⟩ := hg
  have hq := (h.q _ hm).1
  have k := t.keep (n := w.heap.size) hq h.b
  refine ⟨?_, h.lo, k.own h.sv (by decide), ?_, fun p hp => ?_, ?_⟩
  · have e : ({ z.upd g q' with sent := s } : Rz).cs = ({ z with sent := s } : Rz).cs := by
      unfold Rz.cs
      show #[_, _, _, Value.slice z.QA (z.upd g q').qs.length z.qc, _, _] = _
      rw [Rz.upd_len]
      rfl
    rw [e]; exact t.hr
  · have h1 := k.own h.qs (by decide)
    show w'.ownsRow B _ 1 (.slice z.QA (z.upd g q').qs.length z.qc) (z.upd g q').qs.length ((z.upd g q').qs.map fun p => ptr p.1)
    rw [Rz.upd_len, map_ptr, Rz.upd_fst, ← map_ptr]
    exact h1
  · obtain ⟨p0, hp0, rfl⟩ := List.mem_map.1 (show p ∈ z.qs.map fun p => if p.1 = g then (g, q') else p from hp)
    by_cases e : p0.1 = g
    · rw [if_pos e]
      refine ⟨t.hq, ?_⟩
      have := (h.q p0 hp0).2
      rw [e] at this
      exact this
    · rw [if_neg e]
      obtain ⟨h1, h2⟩ := h.q p0 hp0
      refine ⟨?_, h2⟩
      unfold Blk
      rw [t.same p0.1 e (h1.ne_ h.b (by decide))]
      exact h1
  · show ((z.upd g q').qs.map (·.1)).Nodup
    rw [Rz.upd_fst]
    exact h.nd
theorem IsWk.of4 {w w' : World} {N g rb rb2 wb : Nat} {now draw : Int} {fs : List Fd} {FA DA : Option Addr} {fc dc : Nat} {ds : List Dg} {q0 r0 qc rc wc : Array Value} (h : IsWk w N wb rb2 now draw fs FA fc ds DA dc) (t : T4 w w' g rb wb qc rc wc)
    (hq : Blk w g 68 q0) (hr : Blk w rb 64 r0) : IsWk w' N wb rb2 now draw fs FA fc ds DA dc :=
  h.keep (t.keep hq hr) (by decide) (by decide) (by decide) (by decide) (by decide)
end Go.Proofs.YtpfkmmmlocmakaaDoor
