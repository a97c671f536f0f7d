/-
  Routes, the reference: what is found.
-/
import Derived.Test.YtmboadgmhafedaaRr2
set_option linter.unusedVariables false
namespace Go.Proofs.Ytmboadgmhafedaa
open Go.RowKit

theorem find_at {α : Type} {L : List α} {p : α → Bool} {i : Nat} {x : α} (h : L[i]? = some x) (hp : p x = true) (hn : ∀ (j : Nat) (y : α), j < i → L[j]? = some y → p y = false) : L.find? p = some x := by
  induction L generalizing i with
  | nil => simp at h
  | cons q L ih =>
    cases i with
    | zero => simp only [List.getElem?_cons_zero, Option.some.injEq] at h; subst h; rw [List.find?_cons, hp]
    | succ i =>
      rw [List.getElem?_cons_succ] at h
      rw [List.find?_cons, hn 0 q (by omega) rfl]
      exact ih h (fun j y hj hy => hn (j + 1) y (by omega) (by rw [List.getElem?_cons_succ]; exact hy))
def findL (L : List R4) (a : Nat) : R4 × Int := match L.find? (fun x => fitR x a) with
  | some x => (x, 0)
  | none => (⟨0, 0, 0, 0⟩, 7)
set_option maxRecDepth 10000 in
set_option maxHeartbeats 3200000 in
theorem rfindC (w : World) {B t : Nat} {L : List R4} {v : Value} (o : IsTr w B t L v) (hn : L.length ≤ 1000) (hwf : ∀ x ∈ L, x.wf) (a : Nat) (ha : a < 4294967296) :
    Calls Try.prog 17 #[.pointer (some ⟨t, 0, none⟩), .int .u32 a] w fun e w' => e = .returned (.tuple #[.agg (findL L a).1.cs.toArray, .int .i64 (findL L a).2]) ∧ Below w.heap.size w w' := by
  obtain ⟨A, c, rfl, hnc⟩ := o.own.form
  obtain ⟨n, hnn⟩ : ∃ n, L.length = n := ⟨_, rfl⟩
  rw [hnn] at o hnc hn
  have HN := Lib.hid hnn
  have HW := Lib.hid hwf
  obtain ⟨W, hW⟩ : ∃ W, w.alloc (.cells #[.int .u32 0, .int .i64 0, .int .u32 0, .int .i64 0] 36) = W := ⟨_, rfl⟩
  have bw : Below w.heap.size w W := by rw [← hW]; exact al (rf w) _
  have BX : Hid (Blk W w.heap.size 36 #[.int .u32 0, .int .i64 0, .int .u32 0, .int .i64 0]) := by show Blk _ _ _ _; rw [← hW]; exact Blk.new _ _ _
  have OW := Lib.hid (o.nx bw)
  have BW := Lib.hid bw
  have zW := bw.size
  clear o hnn bw hwf
  go_enter Try.func17, Try.ntmps17
  go_wp2
  go_loopw [6] (fun iv wr => ∃ i : Nat, iv = .int .i64 i ∧ i ≤ n ∧ Hid (∀ (j : Nat) (x : R4), j < i → L[j]? = some x → fitR x a = false) ∧ Hid (Below W.heap.size W wr)) (fun iv _ => n - (intOf iv).toNat)
  case atStart => exact ⟨0, rfl, Nat.zero_le _, fun j x hj => absurd hj (Nat.not_lt_zero _), rf W⟩
  case round =>
    obtain ⟨i, rfl, hi, NO, BE⟩ := hrel
    have O1 := OW.out.nx BE.out
    have tc : wr.cell? ⟨t, 0, none⟩ = some (.slice A n c) := O1.tab.cell 0
    by_cases hin : i < n
    · have i0 : (0 : Int) ≤ i := by omega
      have i1 : (i : Int) < n := by omega
      obtain ⟨x, hx⟩ : ∃ x, L[i]? = some x := ⟨_, List.getElem?_eq_getElem (by have := HN.out; omega)⟩
      obtain ⟨g, hA, _, c0, c1, c2, c3⟩ := O1.own.cells hx
      subst hA
      have HX := Lib.hid hx
      have FC := Lib.hid (fitsC x (HW.out x (List.mem_of_getElem? hx)) a ha wr)
      obtain ⟨f, hf⟩ : ∃ f, fitR x a = f := ⟨_, rfl⟩
      rw [hf] at FC
      have HF := Lib.hid hf
      clear hx hf O1
      go_wp2_with fail
      refine FC.out.mono ?_
      rintro e w1 ⟨rfl, b1⟩
      have B1 := Lib.hid (nx BE.out b1)
      have O2 := OW.out.nx B1.out
      have tc1 : w1.cell? ⟨t, 0, none⟩ = some (.slice (some ⟨g, 0, none⟩) n c) := O2.tab.cell 0
      obtain ⟨_, hA, _, d0, d1, d2, d3⟩ := O2.own.cells HX.out
      injection hA with hA; injection hA with hA; subst hA
      have BX1 := Lib.hid (BX.out.nx B1.out)
      clear b1 O2 c0 c1 c2 c3 tc
      cases f with
      | true =>
        have HV : Hid (findL L a = (x, 0)) := by show _ = _; unfold findL; rw [find_at HX.out HF.out NO.out]
        go_wp2_with (refine wpList_store_row rfl 36 (.tmp 4) (.tmp 31) rfl _ #[.int .u32 x.x, .int .i64 x.y, .int .u32 x.z, .int .i64 x.u] rfl rfl _ _ BX1.out (by kernel_rfl) rfl (by kernel_rfl) ?_)
        rw [HV.out]
        exact bodyPost_ret (v := .tuple #[.agg #[.int .u32 x.x, .int .i64 x.y, .int .u32 x.z, .int .i64 x.u], .int .i64 0]) ((run_results_cell_tmp rfl _ _ _ _ _ _ _ rfl (setRow_heap _ _ _ _ _ _ BX1.out) Try.underlying36 rfl (by kernel_rfl)).trans rfl) rfl ⟨rfl, below_setRow (BW.out.trans (B1.out.mono zW)) (Nat.le_refl _) _⟩
      | false =>
        have N2 : Hid (∀ (j : Nat) (q : R4), j < i + 1 → L[j]? = some q → fitR q a = false) := fun j q hj hq => by
          by_cases hji : j = i
          · subst hji; rw [HX.out] at hq; injection hq with hq; subst hq; exact HF.out
          · exact NO.out j q (by omega) hq
        go_wp2
        go_roundw
        case rel => exact ⟨i + 1, by go_num, by omega, N2.out, B1.out⟩
        case measure => simp [intOf]; omega
    · obtain rfl : i = n := by omega
      have HV : Hid (findL L a = (⟨0, 0, 0, 0⟩, 7)) := by
        show _ = _
        unfold findL
        rw [List.find?_eq_none.2 fun x hx => by
          obtain ⟨j, hj⟩ := List.getElem?_of_mem hx
          have := NO.out j x (by have := (List.getElem?_eq_some_iff.1 hj).1; have := HN.out; omega) hj
          simp [this]]
      have BX1 := Lib.hid (BX.out.nx BE.out)
      clear O1
      go_wp2_with (refine wpList_store_row rfl 36 (.tmp 4) (.tmp 32) rfl _ #[.int .u32 0, .int .i64 0, .int .u32 0, .int .i64 0] rfl rfl _ _ BX1.out (by kernel_rfl) rfl (by kernel_rfl) ?_)
      rw [HV.out]
      exact bodyPost_ret (v := .tuple #[.agg #[.int .u32 0, .int .i64 0, .int .u32 0, .int .i64 0], .int .i64 7]) ((run_results_cell_tmp rfl _ _ _ _ _ _ _ rfl (setRow_heap _ _ _ _ _ _ BX1.out) Try.underlying36 rfl (by kernel_rfl)).trans rfl) rfl ⟨rfl, below_setRow (BW.out.trans (BE.out.mono zW)) (Nat.le_refl _) _⟩
end Go.Proofs.Ytmboadgmhafedaa
