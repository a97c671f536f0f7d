/-
  What is released is had no more, and the server is told once. No conditions.
-/
import Derived.Test.YtgdlghieifadhaaLsB
import Derived.Test.YtgdlghieifadhaaLsO
set_option linter.unusedVariables false
namespace Go.Proofs.Ytgdlghieifadhaa
open Go.ChangeShapes Go.WideShapes Go.ChangeAt Go.RowKit

def mac2 : M6 := ⟨2, 0, 0, 0, 0, 0⟩
theorem rel_bound (yours seconds : Int) : relO mac2 (boundS mac2 yours seconds) = some (says mac2 5 7 yours 77) := rfl
set_option maxRecDepth 100000 in
set_option maxHeartbeats 1600000 in
theorem leaseFreed_walk (yours : Int) (w : World) :
    Calls Try.prog 6 #[.int .u32 yours] w fun e w' => e = .returned (.bool true) ∧ Below w.heap.size w w' := by
  by_cases hy : yours = 0
  · subst hy
    go_enter Try.func6, Try.ntmps6
    go_wp2_with fail
    refine (known _).mono ?_
    rintro e w5 ⟨rfl, hb5⟩
    go_wp2
    go_ret
    exact ⟨rfl, hb5⟩
  · have q0 : ((yours : Int) == 0) = false := by rw [beq_eq_false_iff_ne]; exact hy
    have HY := Lib.hid hy; clear hy
    go_enter Try.func6, Try.ntmps6
    go_wp2_with fail
    refine (boundC mac2 yours 60 _ HY.out).mono ?_
    rintro e w1 ⟨b, rfl, hb, hC, hb1⟩
    generalize hol : offL mac2 5 yours 60 5 = ol
    have HOL := Lib.hid hol; clear hol
    have Z1 := Lib.hid (show Blk (w1.alloc (.cells #[.int .i64 0, .int .u32 0, .int .u32 0, .int .u8 0, .int .u8 0, .int .u8 0, .int .u8 0, .int .u8 0, .int .u8 0, .int .i64 0, .int .u32 0, .int .u32 0, .int .i64 0, .int .u32 0, .int .u32 0, .int .u32 0] 27)) w1.heap.size 27 zeroL.cs.toArray from Blk.new _ _ _)
    have C1 := Lib.hid (Blk.alloc hC (.cells #[.int .i64 0, .int .u32 0, .int .u32 0, .int .u8 0, .int .u8 0, .int .u8 0, .int .u8 0, .int .u8 0, .int .u8 0, .int .i64 0, .int .u32 0, .int .u32 0, .int .i64 0, .int .u32 0, .int .u32 0, .int .u32 0] 27))
    have Bw1 := Lib.hid (al hb1 (.cells #[.int .i64 0, .int .u32 0, .int .u32 0, .int .u8 0, .int .u8 0, .int .u8 0, .int .u8 0, .int .u8 0, .int .u8 0, .int .i64 0, .int .u32 0, .int .u32 0, .int .i64 0, .int .u32 0, .int .u32 0, .int .u32 0] 27))
    have z0 := Blk.lt hC
    have z00 := hb1.size
    clear hC hb1
    go_wp2_with ((with_reducible refine wpList_store_blk rfl 27 4 17 rfl w1.heap.size 0 ol.cs (by kernel_rfl) (by kernel_rfl) 27 zeroL.cs Z1.out (by rw [Ls.len, Ls.len]; decide) (by kernel_rfl) ol.one ?_); intro w2 hB2 g2)
    have C2 := Blk.only C1.out g2 (by omega)
    have bw2 := Bw1.out.trans (below_only g2 (by omega) Bw1.out.size)
    have zz2 : w1.heap.size < w2.heap.size := by have := g2.size; simp at this; omega
    clear hB2 g2 C1 Z1 Bw1
    refine (releaseC b mac2 _ _ C2).mono ?_
    rw [rel_bound]
    rintro e w3 ⟨v, rfl, ho, C3, g3⟩
    obtain ⟨q, rfl, hq, hM⟩ : Msg w3 _ v _ := ho
    have bw3 := bw2.trans (below_only g3 hb bw2.size)
    have hq2 : b ≠ q := by omega
    clear bw2 C2
    go_wp2_with fail
    refine (hasMC b mac2 _ _ C3).mono ?_
    rintro e w4 ⟨rfl, hb4⟩
    rw [show decide (3 ≤ (relS (boundS mac2 yours 60)).st) = false from rfl]
    generalize leaseV (relS (boundS mac2 yours 60)) = lv
    have M4 := hM.nx hb4
    have C4 := IsC.nx C3 hb4
    have bw4 := nx bw3 hb4
    have z4 := Blk.lt M4
    have z5 := Blk.lt C4
    have Z5 := Lib.hid (show Blk (w4.alloc (.cells #[.int .i64 0, .int .u32 0, .int .u32 0, .int .u8 0, .int .u8 0, .int .u8 0, .int .u8 0, .int .u8 0, .int .u8 0, .int .i64 0, .int .u32 0, .int .u32 0, .int .i64 0, .int .u32 0, .int .u32 0, .int .u32 0] 27)) w4.heap.size 27 zeroL.cs.toArray from Blk.new _ _ _)
    have M5 := Lib.hid (M4.alloc (.cells #[.int .i64 0, .int .u32 0, .int .u32 0, .int .u8 0, .int .u8 0, .int .u8 0, .int .u8 0, .int .u8 0, .int .u8 0, .int .i64 0, .int .u32 0, .int .u32 0, .int .i64 0, .int .u32 0, .int .u32 0, .int .u32 0] 27))
    have C5 := Lib.hid (Blk.alloc C4 (.cells #[.int .i64 0, .int .u32 0, .int .u32 0, .int .u8 0, .int .u8 0, .int .u8 0, .int .u8 0, .int .u8 0, .int .u8 0, .int .i64 0, .int .u32 0, .int .u32 0, .int .i64 0, .int .u32 0, .int .u32 0, .int .u32 0] 27))
    have Bw5 := Lib.hid (al bw4 (.cells #[.int .i64 0, .int .u32 0, .int .u32 0, .int .u8 0, .int .u8 0, .int .u8 0, .int .u8 0, .int .u8 0, .int .u8 0, .int .i64 0, .int .u32 0, .int .u32 0, .int .i64 0, .int .u32 0, .int .u32 0, .int .u32 0] 27))
    have z6 := bw4.size
    clear M4 C4 bw4 bw3 hM C3 hb4
    go_wp2_with ((with_reducible refine wpList_store_blk rfl 27 7 26 rfl w4.heap.size 0 lv.cs (by kernel_rfl) (by kernel_rfl) 27 zeroL.cs Z5.out (by rw [Ls.len, Ls.len]; decide) (by kernel_rfl) lv.one ?_); intro w5 hB5 g5; have M6 := Blk.only M5.out g5 (by omega); have C6 := Lib.hid (Blk.only C5.out g5 (by omega)); have bw6 := Lib.hid (Bw5.out.trans (below_only g5 (by omega) Bw5.out.size)); have d9 : w5.cell? ⟨q, 9, none⟩ = some (.int .i64 7) := M6.cell 9; have d11 : w5.cell? ⟨q, 11, none⟩ = some (.int .u32 yours) := M6.cell 11; have d10 : w5.cell? ⟨q, 10, none⟩ = some (.int .u32 77) := M6.cell 10; have qq : ((yours : Int) == yours) = true := by simp)
    refine (releaseC b mac2 _ _ C6.out).mono ?_
    rintro e w6 ⟨v, rfl, ho, C7, g7⟩
    obtain rfl : v = .slice none 0 0 := ho
    go_wp2_with fail
    refine (stateC b mac2 _ _ C7).mono ?_
    rintro e w7 ⟨rfl, rfl⟩
    rw [show (relS (relS (boundS mac2 yours 60))).st = 0 from rfl]
    go_wp2_with fail
    refine (known _).mono ?_
    rintro e w8 ⟨rfl, hb8⟩
    go_wp2
    go_ret
    exact ⟨rfl, nx (bw6.out.trans (below_only g7 hb bw6.out.size)) hb8⟩

set_option maxRecDepth 100000 in
theorem leaseFreed_lifted (os : Os) (started : os.Started) (H : Type) (enc : TypeId × Value → H) :
    ReturnsInHanded {} Try.checked os 6 .any (Rows.leaseFreedSpec.pre6 enc Try.prog Try.f6 Rows.leaseFreedRow.domain false) (Rows.leaseFreedSpec.post enc Try.prog Try.f6 false true false false) :=
  law_lift started (by kernel_rfl) Try.func6
    (ChangeSpec.witness6 (enc := enc) (C := Try.checked) false ⟨#[], #[.int .u32 0], []⟩ 8 (by kernel_rfl) (by kernel_rfl) (by kernel_rfl) (by kernel_rfl))
    rfl rfl Try.underlying4 (by kernel_rfl) (fun ds h => match ds, h with | [_], _ => rfl)
    (fun W base args ds p hval hA hsz => by
      rw [Try.params6] at hA hval
      obtain ⟨v0, d0, rfl, rfl, h0⟩ := trodAll_one hA
      obtain ⟨n, rfl, _, _, _⟩ := open_int Try.underlying23 (hval 0 23 v0 rfl rfl) h0
      exact leaseFreed_walk n W)

theorem leaseFreed_holds : Rows.LeaseFreedSaid :=
  OpenClaim.holds_of_wide 6 Try.f6 rfl rfl rfl rfl rfl rfl rfl ⟨rfl, rfl, rfl, rfl, rfl⟩ rfl rfl rfl rfl rfl (by kernel_rfl) Try.func6 (by kernel_rfl)
    (of_decide_eq_true (by kernel_rfl)) (by unfold Func.isWrapper; rw [if_neg (of_decide_eq_false (by kernel_rfl))]; exact ⟨rfl, rfl⟩)
    (fun os started H enc _ => leaseFreed_lifted os started H enc)
end Go.Proofs.Ytgdlghieifadhaa
