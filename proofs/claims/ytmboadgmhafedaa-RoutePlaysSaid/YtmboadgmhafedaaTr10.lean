/-
  Routes, the program: Find.
-/
import Derived.Test.YtmboadgmhafedaaTr9
import Derived.Test.YtmboadgmhafedaaRtG
set_option linter.unusedVariables false
namespace Go.Proofs.Ytmboadgmhafedaa
open Go.RowKit

set_option maxRecDepth 10000 in
set_option maxHeartbeats 3200000 in
theorem findK (w : World) {B t : Nat} {L : List R4} {T : Tre} (h : Tab w B t L T) (a : Nat) (ha : a < 4294967296) :
    Calls Try.prog 10 #[.pointer (some ⟨t, 0, none⟩), .int .u32 a] w fun e w' => e = .returned (.tuple #[.agg (findL L a).1.cs.toArray, .int .i64 (findL L a).2]) ∧ Below w.heap.size w w' := by
  have Z0 := Lib.hid (Blk.new w 36 #[.int .u32 0, .int .i64 0, .int .u32 0, .int .i64 0])
  have Z1 := Lib.hid (Blk.new (w.alloc (.cells #[.int .u32 0, .int .i64 0, .int .u32 0, .int .i64 0] 36)) 36 #[.int .u32 0, .int .i64 0, .int .u32 0, .int .i64 0])
  have HC := Lib.hid h
  have HBF := Lib.hid (best_find h a ha)
  rw [← HBF.out]
  clear h
  go_enter Try.func10, Try.ntmps10
  go_wp2
  have B0 : Hid (Below w.heap.size w ((w.alloc (.cells #[.int .u32 0, .int .i64 0, .int .u32 0, .int .i64 0] 36)).alloc (.cells #[.int .u32 0, .int .i64 0, .int .u32 0, .int .i64 0] 36))) := ((rf w).alloc (Nat.le_refl _) _).alloc (by simp) _
  have ZA : Hid (Blk ((w.alloc (.cells #[.int .u32 0, .int .i64 0, .int .u32 0, .int .i64 0] 36)).alloc (.cells #[.int .u32 0, .int .i64 0, .int .u32 0, .int .i64 0] 36)) w.heap.size 36 #[.int .u32 0, .int .i64 0, .int .u32 0, .int .i64 0]) := Z0.out.alloc _
  have ZB : Hid (Blk ((w.alloc (.cells #[.int .u32 0, .int .i64 0, .int .u32 0, .int .i64 0] 36)).alloc (.cells #[.int .u32 0, .int .i64 0, .int .u32 0, .int .i64 0] 36)) (w.heap.size + 1) 36 #[.int .u32 0, .int .i64 0, .int .u32 0, .int .i64 0]) := by
    have h1 := Z1.out
    rw [show (w.alloc (.cells #[.int .u32 0, .int .i64 0, .int .u32 0, .int .i64 0] 36)).heap.size = w.heap.size + 1 by simp] at h1
    exact h1
  generalize (w.alloc (.cells #[.int .u32 0, .int .i64 0, .int .u32 0, .int .i64 0] 36)).alloc (.cells #[.int .u32 0, .int .i64 0, .int .u32 0, .int .i64 0] 36) = W at B0 ZA ZB ⊢
  clear Z0 Z1
  go_loopw [7, 8, 9] (fun ev x kv wr => ∃ k : Nat, k ≤ 32 ∧ ev = .int .i64 (bestT T a k).2 ∧ x = ndV (T (pth a k)) ∧ kv = .int .i64 k ∧ Hid (Below w.heap.size w wr) ∧ Hid (Blk wr w.heap.size 36 #[.int .u32 0, .int .i64 0, .int .u32 0, .int .i64 0]) ∧ Hid (Blk wr (w.heap.size + 1) 36 (bestT T a k).1.cs.toArray)) (fun _ _ kv _ => 33 - (intOf kv).toNat)
  case atStart =>
    obtain ⟨d, h1, h2⟩ := HC.out.tr.root
    exact ⟨0, by omega, rfl, by rw [show pth a 0 = [] from rfl, h1]; unfold ndV; simp only [h2], rfl, B0.out, ZA.out, ZB.out⟩
  case round =>
    obtain ⟨k, hk, rfl, rfl, rfl, HB, HZ, HX⟩ := hrel
    cases hT : T (pth a k) with
    | some d =>
      obtain ⟨g, v, rs⟩ := d
      unfold ndV
      have HD := Lib.hid hT
      have HRS : Hid (rsOf T (pth a k) = rs) := rsOf_some hT
      have o := HC.out.tr.own _ _ hT
      have y0 := (HC.out.tr.nx HB.out).cell0 hT
      obtain ⟨A1, c1, hv, hc1⟩ := o.form
      simp only at hv y0
      subst hv
      have HB2 : Hid (∀ n, Below w.heap.size w (wr.drewN n)) := fun n => HB.out.trans ((dn (rf wr) n).mono HB.out.size)
      clear hT
      -- behind the last bit
      by_cases hk32 : k = 32
      · subst hk32
        cases rs with
        | nil =>
          have E3 := Lib.hid (bestT_nil HRS.out)
          have HE : bestT T a 33 = bestT T a 32 := E3.out
          obtain ⟨bv, hbv⟩ : ∃ bv, bestT T a 32 = bv := ⟨_, rfl⟩
          rw [hbv] at HX HE ⊢
          obtain ⟨r, ev⟩ := bv
          have q0 : wr.cell? ⟨w.heap.size + 1, 0, none⟩ = some (.int .u32 r.x) := HX.out.cell 0
          have q1 : wr.cell? ⟨w.heap.size + 1, 1, none⟩ = some (.int .i64 r.y) := HX.out.cell 1
          have q2 : wr.cell? ⟨w.heap.size + 1, 2, none⟩ = some (.int .u32 r.z) := HX.out.cell 2
          have q3 : wr.cell? ⟨w.heap.size + 1, 3, none⟩ = some (.int .i64 r.u) := HX.out.cell 3
          have BE : Hid (Below w.heap.size w (wr.setRow w.heap.size r.cs.toArray)) := below_setRow HB.out (Nat.le_refl _) _
          have HBV := Lib.hid HE
          simp only [List.length_nil] at y0
          clear hbv HE o hc1
          go_wp2_with (refine wpList_store_row rfl 36 (.tmp 4) (.tmp 43) rfl _ r.cs.toArray rfl rfl _ _ HZ.out (by kernel_rfl) rfl (by kernel_rfl) ?_)
          exact bodyPost_ret (v := .tuple #[.agg r.cs.toArray, .int .i64 ev]) ((run_results_cell_tmp rfl _ _ _ _ _ _ _ rfl (setRow_heap _ _ _ _ _ _ HZ.out) Try.underlying36 rfl (by kernel_rfl)).trans rfl) rfl ⟨by rw [HBV.out], BE.out⟩
        | cons r rs =>
          have HBV := Lib.hid (bestT_cons HRS.out)
          obtain ⟨h, hA, _, q0, q1, q2, q3⟩ := (o.nx HB.out).cells (i := 0) (r := r) rfl
          subst hA
          simp only [Nat.zero_mul, Nat.zero_add] at q0 q1 q2 q3
          have l0 : (0 : Int) < ((r :: rs).length : Nat) := by simp
          obtain ⟨ln, hln⟩ : ∃ ln, (r :: rs).length = ln := ⟨_, rfl⟩
          rw [hln] at y0 l0
          have HX3 : Hid (Blk (wr.setRow (w.heap.size + 1) r.cs.toArray) (w.heap.size + 1) 36 r.cs.toArray) := setRow_heap _ _ _ _ _ _ HX.out
          have HB3 : Hid (Below w.heap.size w (wr.setRow (w.heap.size + 1) r.cs.toArray)) := below_setRow HB.out (by omega) _
          have HZ3 : Hid (Blk (wr.setRow (w.heap.size + 1) r.cs.toArray) w.heap.size 36 #[.int .u32 0, .int .i64 0, .int .u32 0, .int .i64 0]) := blk_other HZ.out (by omega)
          have p0 : (wr.setRow (w.heap.size + 1) r.cs.toArray).cell? ⟨w.heap.size + 1, 0, none⟩ = some (.int .u32 r.x) := HX3.out.cell 0
          have p1 : (wr.setRow (w.heap.size + 1) r.cs.toArray).cell? ⟨w.heap.size + 1, 1, none⟩ = some (.int .i64 r.y) := HX3.out.cell 1
          have p2 : (wr.setRow (w.heap.size + 1) r.cs.toArray).cell? ⟨w.heap.size + 1, 2, none⟩ = some (.int .u32 r.z) := HX3.out.cell 2
          have p3 : (wr.setRow (w.heap.size + 1) r.cs.toArray).cell? ⟨w.heap.size + 1, 3, none⟩ = some (.int .i64 r.u) := HX3.out.cell 3
          have BE : Hid (Below w.heap.size w ((wr.setRow (w.heap.size + 1) r.cs.toArray).setRow w.heap.size r.cs.toArray)) := below_setRow HB3.out (Nat.le_refl _) _
          clear o hc1 hln
          go_wp2_with (first
            | (refine wpList_store_row rfl 36 (.tmp 6) (.tmp 32) rfl _ r.cs.toArray rfl rfl _ _ HX.out (by kernel_rfl) rfl (by kernel_rfl) ?_)
            | (refine wpList_store_row rfl 36 (.tmp 4) (.tmp 43) rfl _ r.cs.toArray rfl rfl _ _ HZ3.out (by kernel_rfl) rfl (by kernel_rfl) ?_))
          exact bodyPost_ret (v := .tuple #[.agg r.cs.toArray, .int .i64 0]) ((run_results_cell_tmp rfl _ _ _ _ _ _ _ rfl (setRow_heap _ _ _ _ _ _ HZ3.out) Try.underlying36 rfl (by kernel_rfl)).trans rfl) rfl ⟨by rw [HBV.out], BE.out⟩
      have k32 : k < 32 := by omega
      have n32 : ((k : Int) == 32) = false := by rw [beq_eq_false_iff_ne]; omega
      have hbt := bt_lt a k
      have i0 : (0 : Int) ≤ (bt a k : Nat) := by omega
      have i1 : ((bt a k : Nat) : Int) < 2 := by omega
      obtain ⟨V, hV⟩ : ∃ V, ndV (T (pth a (k + 1))) = V := ⟨_, rfl⟩
      have HV := Lib.hid hV
      have YK : Hid (∀ ws, Below w.heap.size w ws → ws.cell? ⟨g, 1 + bt a k, none⟩ = some V) := fun ws q => by
        have h1 := (HC.out.tr.nx q).kid HD.out hbt
        unfold kidV at h1
        rw [← pth_succ] at h1
        rw [← hV]
        exact h1
      have yk := YK.out wr HB.out
      clear hV
      cases rs with
      | nil =>
        have E3 := Lib.hid (bestT_nil HRS.out)
        simp only [List.length_nil] at y0
        clear o hc1
        go_wp2
        go_quiet ((go_at_call 22; exact Calls.quiet_of (bitA a a k _ ha k32 rfl)))
        go_wp2
        go_roundw
        case rel => exact ⟨k + 1, by omega, by rw [E3.out], HV.out.symm, by go_num, HB2.out _, HZ.out, by rw [E3.out]; exact HX.out⟩
        case measure => simp [intOf]; omega
      | cons r rs =>
        have E3 := Lib.hid (bestT_cons HRS.out)
        obtain ⟨h, hA, _, q0, q1, q2, q3⟩ := (o.nx HB.out).cells (i := 0) (r := r) rfl
        subst hA
        simp only [Nat.zero_mul, Nat.zero_add] at q0 q1 q2 q3
        have l0 : (0 : Int) < ((r :: rs).length : Nat) := by simp
        obtain ⟨ln, hln⟩ : ∃ ln, (r :: rs).length = ln := ⟨_, rfl⟩
        rw [hln] at y0 l0
        have HB3 : Hid (Below w.heap.size w (wr.setRow (w.heap.size + 1) r.cs.toArray)) := below_setRow HB.out (by omega) _
        have HB4 : Hid (∀ n, Below w.heap.size w ((wr.setRow (w.heap.size + 1) r.cs.toArray).drewN n)) := fun n => HB3.out.trans ((dn (rf _) n).mono HB3.out.size)
        have HZ3 : Hid (Blk (wr.setRow (w.heap.size + 1) r.cs.toArray) w.heap.size 36 #[.int .u32 0, .int .i64 0, .int .u32 0, .int .i64 0]) := blk_other HZ.out (by omega)
        have HX3 : Hid (Blk (wr.setRow (w.heap.size + 1) r.cs.toArray) (w.heap.size + 1) 36 r.cs.toArray) := setRow_heap _ _ _ _ _ _ HX.out
        have yk3 := YK.out _ HB3.out
        clear o hc1 hln
        go_wp2_with (refine wpList_store_row rfl 36 (.tmp 6) (.tmp 32) rfl _ r.cs.toArray rfl rfl _ _ HX.out (by kernel_rfl) rfl (by kernel_rfl) ?_)
        go_quiet ((go_at_call 22; exact Calls.quiet_of (bitA a a k _ ha k32 rfl)))
        go_wp2
        go_roundw
        case rel => exact ⟨k + 1, by omega, by rw [E3.out], HV.out.symm, by go_num, HB4.out _, HZ3.out, by rw [E3.out]; exact HX3.out⟩
        case measure => simp [intOf]; omega
    | none =>
      unfold ndV
      have HE : bestT T a 33 = bestT T a k := by
        have := bestT_none HC.out.tr hT (33 - k)
        rwa [show k + (33 - k) = 33 by omega] at this
      clear hT
      obtain ⟨bv, hbv⟩ : ∃ bv, bestT T a k = bv := ⟨_, rfl⟩
      rw [hbv] at HX HE ⊢
      obtain ⟨r, ev⟩ := bv
      have q0 : wr.cell? ⟨w.heap.size + 1, 0, none⟩ = some (.int .u32 r.x) := HX.out.cell 0
      have q1 : wr.cell? ⟨w.heap.size + 1, 1, none⟩ = some (.int .i64 r.y) := HX.out.cell 1
      have q2 : wr.cell? ⟨w.heap.size + 1, 2, none⟩ = some (.int .u32 r.z) := HX.out.cell 2
      have q3 : wr.cell? ⟨w.heap.size + 1, 3, none⟩ = some (.int .i64 r.u) := HX.out.cell 3
      have BE : Hid (Below w.heap.size w (wr.setRow w.heap.size r.cs.toArray)) := below_setRow HB.out (Nat.le_refl _) _
      have HBV := Lib.hid HE
      clear hbv HE
      go_wp2_with (refine wpList_store_row rfl 36 (.tmp 4) (.tmp 43) rfl _ r.cs.toArray rfl rfl _ _ HZ.out (by kernel_rfl) rfl (by kernel_rfl) ?_)
      exact bodyPost_ret (v := .tuple #[.agg r.cs.toArray, .int .i64 ev]) ((run_results_cell_tmp rfl _ _ _ _ _ _ _ rfl (setRow_heap _ _ _ _ _ _ HZ.out) Try.underlying36 rfl (by kernel_rfl)).trans rfl) rfl ⟨by rw [HBV.out], BE.out⟩
end Go.Proofs.Ytmboadgmhafedaa
