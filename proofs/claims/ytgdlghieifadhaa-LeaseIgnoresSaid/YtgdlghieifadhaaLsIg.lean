/-
  A message of another ID, to another client, or that is a client's own changes nothing. No conditions.
-/
import Derived.Test.YtgdlghieifadhaaLs7
import Derived.Test.YtgdlghieifadhaaLsO
set_option linter.unusedVariables false
namespace Go.Proofs.Ytgdlghieifadhaa
open Go.ChangeShapes Go.WideShapes Go.ChangeAt Go.RowKit

theorem Blk.six {w : World} {g : Nat} {t : TypeId} {c0 c1 c2 c3 c4 c5 : Value} (h : Blk w g t #[c0, c1, c2, c3, c4, c5]) :
    w.cell? ⟨g, 0, none⟩ = some c0 ∧ w.cell? ⟨g, 1, none⟩ = some c1 ∧ w.cell? ⟨g, 2, none⟩ = some c2 ∧ w.cell? ⟨g, 3, none⟩ = some c3 ∧ w.cell? ⟨g, 4, none⟩ = some c4 ∧ w.cell? ⟨g, 5, none⟩ = some c5 := cells6 h
theorem newS_ok : newS.ok := ⟨by decide, by decide, by decide, by decide, by decide, by decide, by decide, by decide⟩
def macI : M6 := ⟨2, 0, 0, 0, 0, 1⟩
-- CASES
set_option maxRecDepth 100000 in
set_option maxHeartbeats 1600000 in
theorem leaseIgnores_a (m : Ls) (which : Int) (w : World) (q0 : (bits BinOp.and .i64 which 3 == 0) = true) :
    Calls Try.prog 3 #[.agg m.cs.toArray, .int .i64 which] w fun e w' => e = .returned (.bool true) ∧ Below w.heap.size w w' := by
  have M0 : Blk (w.alloc (.cells #[.int .i64 m.op, .int .u32 m.id, .int .u32 m.yours, .int .u8 m.cl.a, .int .u8 m.cl.b, .int .u8 m.cl.c, .int .u8 m.cl.d, .int .u8 m.cl.e, .int .u8 m.cl.f, .int .i64 m.ty, .int .u32 m.server, .int .u32 m.asked, .int .i64 m.time, .int .u32 m.mask, .int .u32 m.router, .int .u32 m.resolver] 27)) w.heap.size 27 m.cs.toArray := Blk.new _ _ _
  have X0 : Blk ((w.alloc (.cells #[.int .i64 m.op, .int .u32 m.id, .int .u32 m.yours, .int .u8 m.cl.a, .int .u8 m.cl.b, .int .u8 m.cl.c, .int .u8 m.cl.d, .int .u8 m.cl.e, .int .u8 m.cl.f, .int .i64 m.ty, .int .u32 m.server, .int .u32 m.asked, .int .i64 m.time, .int .u32 m.mask, .int .u32 m.router, .int .u32 m.resolver] 27)).alloc (.cells #[.int .u8 2, .int .u8 0, .int .u8 0, .int .u8 0, .int .u8 0, .int .u8 1] 25)) (w.heap.size + 1) 25 #[.int .u8 2, .int .u8 0, .int .u8 0, .int .u8 0, .int .u8 0, .int .u8 1] := blk_at _ _ _ (by simp)
  have M1 := M0.alloc (.cells #[.int .u8 2, .int .u8 0, .int .u8 0, .int .u8 0, .int .u8 0, .int .u8 1] 25)
  have b0 : Below w.heap.size w ((w.alloc (.cells #[.int .i64 m.op, .int .u32 m.id, .int .u32 m.yours, .int .u8 m.cl.a, .int .u8 m.cl.b, .int .u8 m.cl.c, .int .u8 m.cl.d, .int .u8 m.cl.e, .int .u8 m.cl.f, .int .i64 m.ty, .int .u32 m.server, .int .u32 m.asked, .int .i64 m.time, .int .u32 m.mask, .int .u32 m.router, .int .u32 m.resolver] 27)).alloc (.cells #[.int .u8 2, .int .u8 0, .int .u8 0, .int .u8 0, .int .u8 0, .int .u8 1] 25)) := al (al (rf w) _) _
  simp only [Ls.cs]
  go_enter Try.func3, Try.ntmps3
  go_wp2_with fail
  refine (newC macI _).mono ?_
  rintro e w1 ⟨b, rfl, hb, hC, hb1⟩
  have X1 := X0.nx hb1
  have M2 := M1.nx hb1
  have bw1 := nx b0 hb1
  have z1 : w.heap.size + 1 < b := by have := hb; simp at this; omega
  clear X0 M0 M1 b0 hb1
  go_wp2_with fail
  refine (start_new b _ 0 5 _ hC (by decide) (by decide)).mono ?_
  rintro e w2 ⟨g, rfl, hg, hM, hC2, hg2⟩
  have X2 := X1.only hg2 (by omega)
  have M3 := M2.only hg2 (by omega)
  have bw2 : Below w.heap.size w w2 := bw1.trans (below_only hg2 (by omega) bw1.size)
  have hlt := Blk.lt hC
  have z2 : w.heap.size < g ∧ w.heap.size + 1 < g ∧ b < g := ⟨by omega, by omega, by omega⟩
  have z3 := Blk.lt hM
  clear X1 M2 bw1 hC hg2
  have m1 : w2.cell? ⟨g, 1, none⟩ = some (.int .u32 5) := hM.cell 1
  obtain ⟨x0, x1, x2, x3, x4, x5⟩ := X2.six
  have k0 : w2.cell? ⟨w.heap.size, 0, none⟩ = some (.int .i64 m.op) := M3.cell 0
  have k1 : w2.cell? ⟨w.heap.size, 1, none⟩ = some (.int .u32 m.id) := M3.cell 1
  have k3 : w2.cell? ⟨w.heap.size, 3, none⟩ = some (.int .u8 m.cl.a) := M3.cell 3
  have k4 : w2.cell? ⟨w.heap.size, 4, none⟩ = some (.int .u8 m.cl.b) := M3.cell 4
  have k5 : w2.cell? ⟨w.heap.size, 5, none⟩ = some (.int .u8 m.cl.c) := M3.cell 5
  have k6 : w2.cell? ⟨w.heap.size, 6, none⟩ = some (.int .u8 m.cl.d) := M3.cell 6
  have k7 : w2.cell? ⟨w.heap.size, 7, none⟩ = some (.int .u8 m.cl.e) := M3.cell 7
  have k8 : w2.cell? ⟨w.heap.size, 8, none⟩ = some (.int .u8 m.cl.f) := M3.cell 8
  have k9 : w2.cell? ⟨w.heap.size, 9, none⟩ = some (.int .i64 m.ty) := M3.cell 9
  have f0 := M3.frozen 0
  have f1 := M3.frozen 1
  have f3 := M3.frozen 3
  have f4 := M3.frozen 4
  have f5 := M3.frozen 5
  have f6 := M3.frozen 6
  have f7 := M3.frozen 7
  have f8 := M3.frozen 8
  have f9 := M3.frozen 9
  have n1 : w.heap.size ≠ g := by omega
  have n2 : g ≠ w.heap.size := by omega
  have HM3 := Lib.hid M3; clear M3 X2 hM
  have HB : Hid (Blk ((((((((((w2.setCell ⟨w.heap.size, 9, none⟩ (.int .i64 2)).setCell ⟨w.heap.size, 0, none⟩ (.int .i64 2)).setCell ⟨w.heap.size, 1, none⟩ (.int .u32 5)).setCell ⟨w.heap.size, 3, none⟩ (.int .u8 2)).setCell ⟨w.heap.size, 4, none⟩ (.int .u8 0)).setCell ⟨w.heap.size, 5, none⟩ (.int .u8 0)).setCell ⟨w.heap.size, 6, none⟩ (.int .u8 0)).setCell ⟨w.heap.size, 7, none⟩ (.int .u8 0)).setCell ⟨w.heap.size, 8, none⟩ (.int .u8 1)).setCell ⟨w.heap.size, 1, none⟩ (.int .u32 6)) w.heap.size 27 ({ m with op := 2, id := 6, cl := macI, ty := 2 }).cs.toArray) := (((((((((((HM3.out).set_ 9 (.int .i64 2)).set_ 0 (.int .i64 2)).set_ 1 (.int .u32 5)).set_ 3 (.int .u8 2)).set_ 4 (.int .u8 0)).set_ 5 (.int .u8 0)).set_ 6 (.int .u8 0)).set_ 7 (.int .u8 0)).set_ 8 (.int .u8 1)).set_ 1 (.int .u32 6)).eq_ (by kernel_rfl)
  have HC : Hid (IsC ((((((((((w2.setCell ⟨w.heap.size, 9, none⟩ (.int .i64 2)).setCell ⟨w.heap.size, 0, none⟩ (.int .i64 2)).setCell ⟨w.heap.size, 1, none⟩ (.int .u32 5)).setCell ⟨w.heap.size, 3, none⟩ (.int .u8 2)).setCell ⟨w.heap.size, 4, none⟩ (.int .u8 0)).setCell ⟨w.heap.size, 5, none⟩ (.int .u8 0)).setCell ⟨w.heap.size, 6, none⟩ (.int .u8 0)).setCell ⟨w.heap.size, 7, none⟩ (.int .u8 0)).setCell ⟨w.heap.size, 8, none⟩ (.int .u8 1)).setCell ⟨w.heap.size, 1, none⟩ (.int .u32 6)) b macI (beginS newS 0 5)) := (hC2.only (b := w.heap.size) (only_setCell (p := ⟨w.heap.size, 1, none⟩) (only_setCell (p := ⟨w.heap.size, 8, none⟩) (only_setCell (p := ⟨w.heap.size, 7, none⟩) (only_setCell (p := ⟨w.heap.size, 6, none⟩) (only_setCell (p := ⟨w.heap.size, 5, none⟩) (only_setCell (p := ⟨w.heap.size, 4, none⟩) (only_setCell (p := ⟨w.heap.size, 3, none⟩) (only_setCell (p := ⟨w.heap.size, 1, none⟩) (only_setCell (p := ⟨w.heap.size, 0, none⟩) (only_setCell (p := ⟨w.heap.size, 9, none⟩) (World.grownBy.refl _ _) (.inl rfl) _) (.inl rfl) _) (.inl rfl) _) (.inl rfl) _) (.inl rfl) _) (.inl rfl) _) (.inl rfl) _) (.inl rfl) _) (.inl rfl) _) (.inl rfl) _) (by omega))
  have HG : Hid (w2.grownBy ((((((((((w2.setCell ⟨w.heap.size, 9, none⟩ (.int .i64 2)).setCell ⟨w.heap.size, 0, none⟩ (.int .i64 2)).setCell ⟨w.heap.size, 1, none⟩ (.int .u32 5)).setCell ⟨w.heap.size, 3, none⟩ (.int .u8 2)).setCell ⟨w.heap.size, 4, none⟩ (.int .u8 0)).setCell ⟨w.heap.size, 5, none⟩ (.int .u8 0)).setCell ⟨w.heap.size, 6, none⟩ (.int .u8 0)).setCell ⟨w.heap.size, 7, none⟩ (.int .u8 0)).setCell ⟨w.heap.size, 8, none⟩ (.int .u8 1)).setCell ⟨w.heap.size, 1, none⟩ (.int .u32 6)) (some w.heap.size)) := only_setCell (p := ⟨w.heap.size, 1, none⟩) (only_setCell (p := ⟨w.heap.size, 8, none⟩) (only_setCell (p := ⟨w.heap.size, 7, none⟩) (only_setCell (p := ⟨w.heap.size, 6, none⟩) (only_setCell (p := ⟨w.heap.size, 5, none⟩) (only_setCell (p := ⟨w.heap.size, 4, none⟩) (only_setCell (p := ⟨w.heap.size, 3, none⟩) (only_setCell (p := ⟨w.heap.size, 1, none⟩) (only_setCell (p := ⟨w.heap.size, 0, none⟩) (only_setCell (p := ⟨w.heap.size, 9, none⟩) (World.grownBy.refl _ _) (.inl rfl) _) (.inl rfl) _) (.inl rfl) _) (.inl rfl) _) (.inl rfl) _) (.inl rfl) _) (.inl rfl) _) (.inl rfl) _) (.inl rfl) _) (.inl rfl) _
  have ok1 : (beginS newS 0 5).ok := ⟨by decide, by decide, by decide, by decide, by decide, by decide, by decide, by decide⟩
  go_wp2_with (with_reducible refine wpList_load_blk rfl 27 2 rfl w.heap.size 0 16 (by kernel_rfl) 27 _ ({ m with op := 2, id := 6, cl := macI, ty := 2 }).cs HB.out (by kernel_rfl) _ Try.underlying27 (by kernel_rfl) (by kernel_rfl) ?_)
  refine (hear_id b macI _ { m with op := 2, id := 6, cl := macI, ty := 2 } 1 0 _ HC.out ok1 (by decide) (by decide) rfl (show (6 : Int) ≠ 5 % 4294967296 by decide)).mono ?_
  rintro e w3 ⟨v, rfl, rfl, hC3, hg3⟩
  go_wp2_with fail
  refine (stateC b _ _ _ hC3).mono ?_
  rintro e w4 ⟨rfl, rfl⟩
  rw [show (beginS newS 0 5).st = 1 from rfl]
  go_wp2_with fail
  refine (known _).mono ?_
  rintro e w5 ⟨rfl, hb5⟩
  go_wp2
  go_ret
  have z9 := HG.out.size
  exact ⟨rfl, nx ((bw2.trans (below_only HG.out (Nat.le_refl _) bw2.size)).trans (below_only hg3 (by omega) (Nat.le_trans bw2.size z9))) hb5⟩
set_option maxRecDepth 100000 in
set_option maxHeartbeats 1600000 in
theorem leaseIgnores_b (m : Ls) (which : Int) (w : World) (q0 : (bits BinOp.and .i64 which 3 == 0) = false) (q1 : (bits BinOp.and .i64 which 3 == 1) = true) :
    Calls Try.prog 3 #[.agg m.cs.toArray, .int .i64 which] w fun e w' => e = .returned (.bool true) ∧ Below w.heap.size w w' := by
  have M0 : Blk (w.alloc (.cells #[.int .i64 m.op, .int .u32 m.id, .int .u32 m.yours, .int .u8 m.cl.a, .int .u8 m.cl.b, .int .u8 m.cl.c, .int .u8 m.cl.d, .int .u8 m.cl.e, .int .u8 m.cl.f, .int .i64 m.ty, .int .u32 m.server, .int .u32 m.asked, .int .i64 m.time, .int .u32 m.mask, .int .u32 m.router, .int .u32 m.resolver] 27)) w.heap.size 27 m.cs.toArray := Blk.new _ _ _
  have X0 : Blk ((w.alloc (.cells #[.int .i64 m.op, .int .u32 m.id, .int .u32 m.yours, .int .u8 m.cl.a, .int .u8 m.cl.b, .int .u8 m.cl.c, .int .u8 m.cl.d, .int .u8 m.cl.e, .int .u8 m.cl.f, .int .i64 m.ty, .int .u32 m.server, .int .u32 m.asked, .int .i64 m.time, .int .u32 m.mask, .int .u32 m.router, .int .u32 m.resolver] 27)).alloc (.cells #[.int .u8 2, .int .u8 0, .int .u8 0, .int .u8 0, .int .u8 0, .int .u8 1] 25)) (w.heap.size + 1) 25 #[.int .u8 2, .int .u8 0, .int .u8 0, .int .u8 0, .int .u8 0, .int .u8 1] := blk_at _ _ _ (by simp)
  have M1 := M0.alloc (.cells #[.int .u8 2, .int .u8 0, .int .u8 0, .int .u8 0, .int .u8 0, .int .u8 1] 25)
  have b0 : Below w.heap.size w ((w.alloc (.cells #[.int .i64 m.op, .int .u32 m.id, .int .u32 m.yours, .int .u8 m.cl.a, .int .u8 m.cl.b, .int .u8 m.cl.c, .int .u8 m.cl.d, .int .u8 m.cl.e, .int .u8 m.cl.f, .int .i64 m.ty, .int .u32 m.server, .int .u32 m.asked, .int .i64 m.time, .int .u32 m.mask, .int .u32 m.router, .int .u32 m.resolver] 27)).alloc (.cells #[.int .u8 2, .int .u8 0, .int .u8 0, .int .u8 0, .int .u8 0, .int .u8 1] 25)) := al (al (rf w) _) _
  simp only [Ls.cs]
  go_enter Try.func3, Try.ntmps3
  go_wp2_with fail
  refine (newC macI _).mono ?_
  rintro e w1 ⟨b, rfl, hb, hC, hb1⟩
  have X1 := X0.nx hb1
  have M2 := M1.nx hb1
  have bw1 := nx b0 hb1
  have z1 : w.heap.size + 1 < b := by have := hb; simp at this; omega
  clear X0 M0 M1 b0 hb1
  go_wp2_with fail
  refine (start_new b _ 0 5 _ hC (by decide) (by decide)).mono ?_
  rintro e w2 ⟨g, rfl, hg, hM, hC2, hg2⟩
  have X2 := X1.only hg2 (by omega)
  have M3 := M2.only hg2 (by omega)
  have bw2 : Below w.heap.size w w2 := bw1.trans (below_only hg2 (by omega) bw1.size)
  have hlt := Blk.lt hC
  have z2 : w.heap.size < g ∧ w.heap.size + 1 < g ∧ b < g := ⟨by omega, by omega, by omega⟩
  have z3 := Blk.lt hM
  clear X1 M2 bw1 hC hg2
  have m1 : w2.cell? ⟨g, 1, none⟩ = some (.int .u32 5) := hM.cell 1
  obtain ⟨x0, x1, x2, x3, x4, x5⟩ := X2.six
  have k0 : w2.cell? ⟨w.heap.size, 0, none⟩ = some (.int .i64 m.op) := M3.cell 0
  have k1 : w2.cell? ⟨w.heap.size, 1, none⟩ = some (.int .u32 m.id) := M3.cell 1
  have k3 : w2.cell? ⟨w.heap.size, 3, none⟩ = some (.int .u8 m.cl.a) := M3.cell 3
  have k4 : w2.cell? ⟨w.heap.size, 4, none⟩ = some (.int .u8 m.cl.b) := M3.cell 4
  have k5 : w2.cell? ⟨w.heap.size, 5, none⟩ = some (.int .u8 m.cl.c) := M3.cell 5
  have k6 : w2.cell? ⟨w.heap.size, 6, none⟩ = some (.int .u8 m.cl.d) := M3.cell 6
  have k7 : w2.cell? ⟨w.heap.size, 7, none⟩ = some (.int .u8 m.cl.e) := M3.cell 7
  have k8 : w2.cell? ⟨w.heap.size, 8, none⟩ = some (.int .u8 m.cl.f) := M3.cell 8
  have k9 : w2.cell? ⟨w.heap.size, 9, none⟩ = some (.int .i64 m.ty) := M3.cell 9
  have f0 := M3.frozen 0
  have f1 := M3.frozen 1
  have f3 := M3.frozen 3
  have f4 := M3.frozen 4
  have f5 := M3.frozen 5
  have f6 := M3.frozen 6
  have f7 := M3.frozen 7
  have f8 := M3.frozen 8
  have f9 := M3.frozen 9
  have n1 : w.heap.size ≠ g := by omega
  have n2 : g ≠ w.heap.size := by omega
  have HM3 := Lib.hid M3; clear M3 X2 hM
  have HB : Hid (Blk (((((((((((((((w2.setCell ⟨w.heap.size, 9, none⟩ (.int .i64 2)).setCell ⟨w.heap.size, 0, none⟩ (.int .i64 2)).setCell ⟨w.heap.size, 1, none⟩ (.int .u32 5)).setCell ⟨w.heap.size, 3, none⟩ (.int .u8 2)).setCell ⟨w.heap.size, 4, none⟩ (.int .u8 0)).setCell ⟨w.heap.size, 5, none⟩ (.int .u8 0)).setCell ⟨w.heap.size, 6, none⟩ (.int .u8 0)).setCell ⟨w.heap.size, 7, none⟩ (.int .u8 0)).setCell ⟨w.heap.size, 8, none⟩ (.int .u8 1)).setCell ⟨w.heap.size, 3, none⟩ (.int .u8 9)).setCell ⟨w.heap.size, 4, none⟩ (.int .u8 0)).setCell ⟨w.heap.size, 5, none⟩ (.int .u8 0)).setCell ⟨w.heap.size, 6, none⟩ (.int .u8 0)).setCell ⟨w.heap.size, 7, none⟩ (.int .u8 0)).setCell ⟨w.heap.size, 8, none⟩ (.int .u8 0)) w.heap.size 27 ({ m with op := 2, id := 5, cl := ⟨9, 0, 0, 0, 0, 0⟩, ty := 2 }).cs.toArray) := ((((((((((((((((HM3.out).set_ 9 (.int .i64 2)).set_ 0 (.int .i64 2)).set_ 1 (.int .u32 5)).set_ 3 (.int .u8 2)).set_ 4 (.int .u8 0)).set_ 5 (.int .u8 0)).set_ 6 (.int .u8 0)).set_ 7 (.int .u8 0)).set_ 8 (.int .u8 1)).set_ 3 (.int .u8 9)).set_ 4 (.int .u8 0)).set_ 5 (.int .u8 0)).set_ 6 (.int .u8 0)).set_ 7 (.int .u8 0)).set_ 8 (.int .u8 0)).eq_ (by kernel_rfl)
  have HC : Hid (IsC (((((((((((((((w2.setCell ⟨w.heap.size, 9, none⟩ (.int .i64 2)).setCell ⟨w.heap.size, 0, none⟩ (.int .i64 2)).setCell ⟨w.heap.size, 1, none⟩ (.int .u32 5)).setCell ⟨w.heap.size, 3, none⟩ (.int .u8 2)).setCell ⟨w.heap.size, 4, none⟩ (.int .u8 0)).setCell ⟨w.heap.size, 5, none⟩ (.int .u8 0)).setCell ⟨w.heap.size, 6, none⟩ (.int .u8 0)).setCell ⟨w.heap.size, 7, none⟩ (.int .u8 0)).setCell ⟨w.heap.size, 8, none⟩ (.int .u8 1)).setCell ⟨w.heap.size, 3, none⟩ (.int .u8 9)).setCell ⟨w.heap.size, 4, none⟩ (.int .u8 0)).setCell ⟨w.heap.size, 5, none⟩ (.int .u8 0)).setCell ⟨w.heap.size, 6, none⟩ (.int .u8 0)).setCell ⟨w.heap.size, 7, none⟩ (.int .u8 0)).setCell ⟨w.heap.size, 8, none⟩ (.int .u8 0)) b macI (beginS newS 0 5)) := (hC2.only (b := w.heap.size) (only_setCell (p := ⟨w.heap.size, 8, none⟩) (only_setCell (p := ⟨w.heap.size, 7, none⟩) (only_setCell (p := ⟨w.heap.size, 6, none⟩) (only_setCell (p := ⟨w.heap.size, 5, none⟩) (only_setCell (p := ⟨w.heap.size, 4, none⟩) (only_setCell (p := ⟨w.heap.size, 3, none⟩) (only_setCell (p := ⟨w.heap.size, 8, none⟩) (only_setCell (p := ⟨w.heap.size, 7, none⟩) (only_setCell (p := ⟨w.heap.size, 6, none⟩) (only_setCell (p := ⟨w.heap.size, 5, none⟩) (only_setCell (p := ⟨w.heap.size, 4, none⟩) (only_setCell (p := ⟨w.heap.size, 3, none⟩) (only_setCell (p := ⟨w.heap.size, 1, none⟩) (only_setCell (p := ⟨w.heap.size, 0, none⟩) (only_setCell (p := ⟨w.heap.size, 9, none⟩) (World.grownBy.refl _ _) (.inl rfl) _) (.inl rfl) _) (.inl rfl) _) (.inl rfl) _) (.inl rfl) _) (.inl rfl) _) (.inl rfl) _) (.inl rfl) _) (.inl rfl) _) (.inl rfl) _) (.inl rfl) _) (.inl rfl) _) (.inl rfl) _) (.inl rfl) _) (.inl rfl) _) (by omega))
  have HG : Hid (w2.grownBy (((((((((((((((w2.setCell ⟨w.heap.size, 9, none⟩ (.int .i64 2)).setCell ⟨w.heap.size, 0, none⟩ (.int .i64 2)).setCell ⟨w.heap.size, 1, none⟩ (.int .u32 5)).setCell ⟨w.heap.size, 3, none⟩ (.int .u8 2)).setCell ⟨w.heap.size, 4, none⟩ (.int .u8 0)).setCell ⟨w.heap.size, 5, none⟩ (.int .u8 0)).setCell ⟨w.heap.size, 6, none⟩ (.int .u8 0)).setCell ⟨w.heap.size, 7, none⟩ (.int .u8 0)).setCell ⟨w.heap.size, 8, none⟩ (.int .u8 1)).setCell ⟨w.heap.size, 3, none⟩ (.int .u8 9)).setCell ⟨w.heap.size, 4, none⟩ (.int .u8 0)).setCell ⟨w.heap.size, 5, none⟩ (.int .u8 0)).setCell ⟨w.heap.size, 6, none⟩ (.int .u8 0)).setCell ⟨w.heap.size, 7, none⟩ (.int .u8 0)).setCell ⟨w.heap.size, 8, none⟩ (.int .u8 0)) (some w.heap.size)) := only_setCell (p := ⟨w.heap.size, 8, none⟩) (only_setCell (p := ⟨w.heap.size, 7, none⟩) (only_setCell (p := ⟨w.heap.size, 6, none⟩) (only_setCell (p := ⟨w.heap.size, 5, none⟩) (only_setCell (p := ⟨w.heap.size, 4, none⟩) (only_setCell (p := ⟨w.heap.size, 3, none⟩) (only_setCell (p := ⟨w.heap.size, 8, none⟩) (only_setCell (p := ⟨w.heap.size, 7, none⟩) (only_setCell (p := ⟨w.heap.size, 6, none⟩) (only_setCell (p := ⟨w.heap.size, 5, none⟩) (only_setCell (p := ⟨w.heap.size, 4, none⟩) (only_setCell (p := ⟨w.heap.size, 3, none⟩) (only_setCell (p := ⟨w.heap.size, 1, none⟩) (only_setCell (p := ⟨w.heap.size, 0, none⟩) (only_setCell (p := ⟨w.heap.size, 9, none⟩) (World.grownBy.refl _ _) (.inl rfl) _) (.inl rfl) _) (.inl rfl) _) (.inl rfl) _) (.inl rfl) _) (.inl rfl) _) (.inl rfl) _) (.inl rfl) _) (.inl rfl) _) (.inl rfl) _) (.inl rfl) _) (.inl rfl) _) (.inl rfl) _) (.inl rfl) _) (.inl rfl) _
  have ok1 : (beginS newS 0 5).ok := ⟨by decide, by decide, by decide, by decide, by decide, by decide, by decide, by decide⟩
  go_wp2_with (with_reducible refine wpList_load_blk rfl 27 2 rfl w.heap.size 0 16 (by kernel_rfl) 27 _ ({ m with op := 2, id := 5, cl := ⟨9, 0, 0, 0, 0, 0⟩, ty := 2 }).cs HB.out (by kernel_rfl) _ Try.underlying27 (by kernel_rfl) (by kernel_rfl) ?_)
  refine (hear_mac b macI _ { m with op := 2, id := 5, cl := ⟨9, 0, 0, 0, 0, 0⟩, ty := 2 } 1 0 _ HC.out ok1 (by decide) (by decide) rfl (show (5 : Int) = 5 % 4294967296 by decide) rfl).mono ?_
  rintro e w3 ⟨v, rfl, rfl, hC3, hg3⟩
  go_wp2_with fail
  refine (stateC b _ _ _ hC3).mono ?_
  rintro e w4 ⟨rfl, rfl⟩
  rw [show (beginS newS 0 5).st = 1 from rfl]
  go_wp2_with fail
  refine (known _).mono ?_
  rintro e w5 ⟨rfl, hb5⟩
  go_wp2
  go_ret
  have z9 := HG.out.size
  exact ⟨rfl, nx ((bw2.trans (below_only HG.out (Nat.le_refl _) bw2.size)).trans (below_only hg3 (by omega) (Nat.le_trans bw2.size z9))) hb5⟩
set_option maxRecDepth 100000 in
set_option maxHeartbeats 1600000 in
theorem leaseIgnores_c (m : Ls) (which : Int) (w : World) (q0 : (bits BinOp.and .i64 which 3 == 0) = false) (q1 : (bits BinOp.and .i64 which 3 == 1) = false) (q2 : (bits BinOp.and .i64 which 3 == 2) = true) :
    Calls Try.prog 3 #[.agg m.cs.toArray, .int .i64 which] w fun e w' => e = .returned (.bool true) ∧ Below w.heap.size w w' := by
  have M0 : Blk (w.alloc (.cells #[.int .i64 m.op, .int .u32 m.id, .int .u32 m.yours, .int .u8 m.cl.a, .int .u8 m.cl.b, .int .u8 m.cl.c, .int .u8 m.cl.d, .int .u8 m.cl.e, .int .u8 m.cl.f, .int .i64 m.ty, .int .u32 m.server, .int .u32 m.asked, .int .i64 m.time, .int .u32 m.mask, .int .u32 m.router, .int .u32 m.resolver] 27)) w.heap.size 27 m.cs.toArray := Blk.new _ _ _
  have X0 : Blk ((w.alloc (.cells #[.int .i64 m.op, .int .u32 m.id, .int .u32 m.yours, .int .u8 m.cl.a, .int .u8 m.cl.b, .int .u8 m.cl.c, .int .u8 m.cl.d, .int .u8 m.cl.e, .int .u8 m.cl.f, .int .i64 m.ty, .int .u32 m.server, .int .u32 m.asked, .int .i64 m.time, .int .u32 m.mask, .int .u32 m.router, .int .u32 m.resolver] 27)).alloc (.cells #[.int .u8 2, .int .u8 0, .int .u8 0, .int .u8 0, .int .u8 0, .int .u8 1] 25)) (w.heap.size + 1) 25 #[.int .u8 2, .int .u8 0, .int .u8 0, .int .u8 0, .int .u8 0, .int .u8 1] := blk_at _ _ _ (by simp)
  have M1 := M0.alloc (.cells #[.int .u8 2, .int .u8 0, .int .u8 0, .int .u8 0, .int .u8 0, .int .u8 1] 25)
  have b0 : Below w.heap.size w ((w.alloc (.cells #[.int .i64 m.op, .int .u32 m.id, .int .u32 m.yours, .int .u8 m.cl.a, .int .u8 m.cl.b, .int .u8 m.cl.c, .int .u8 m.cl.d, .int .u8 m.cl.e, .int .u8 m.cl.f, .int .i64 m.ty, .int .u32 m.server, .int .u32 m.asked, .int .i64 m.time, .int .u32 m.mask, .int .u32 m.router, .int .u32 m.resolver] 27)).alloc (.cells #[.int .u8 2, .int .u8 0, .int .u8 0, .int .u8 0, .int .u8 0, .int .u8 1] 25)) := al (al (rf w) _) _
  simp only [Ls.cs]
  go_enter Try.func3, Try.ntmps3
  go_wp2_with fail
  refine (newC macI _).mono ?_
  rintro e w1 ⟨b, rfl, hb, hC, hb1⟩
  have X1 := X0.nx hb1
  have M2 := M1.nx hb1
  have bw1 := nx b0 hb1
  have z1 : w.heap.size + 1 < b := by have := hb; simp at this; omega
  clear X0 M0 M1 b0 hb1
  go_wp2_with fail
  refine (start_new b _ 0 5 _ hC (by decide) (by decide)).mono ?_
  rintro e w2 ⟨g, rfl, hg, hM, hC2, hg2⟩
  have X2 := X1.only hg2 (by omega)
  have M3 := M2.only hg2 (by omega)
  have bw2 : Below w.heap.size w w2 := bw1.trans (below_only hg2 (by omega) bw1.size)
  have hlt := Blk.lt hC
  have z2 : w.heap.size < g ∧ w.heap.size + 1 < g ∧ b < g := ⟨by omega, by omega, by omega⟩
  have z3 := Blk.lt hM
  clear X1 M2 bw1 hC hg2
  have m1 : w2.cell? ⟨g, 1, none⟩ = some (.int .u32 5) := hM.cell 1
  obtain ⟨x0, x1, x2, x3, x4, x5⟩ := X2.six
  have k0 : w2.cell? ⟨w.heap.size, 0, none⟩ = some (.int .i64 m.op) := M3.cell 0
  have k1 : w2.cell? ⟨w.heap.size, 1, none⟩ = some (.int .u32 m.id) := M3.cell 1
  have k3 : w2.cell? ⟨w.heap.size, 3, none⟩ = some (.int .u8 m.cl.a) := M3.cell 3
  have k4 : w2.cell? ⟨w.heap.size, 4, none⟩ = some (.int .u8 m.cl.b) := M3.cell 4
  have k5 : w2.cell? ⟨w.heap.size, 5, none⟩ = some (.int .u8 m.cl.c) := M3.cell 5
  have k6 : w2.cell? ⟨w.heap.size, 6, none⟩ = some (.int .u8 m.cl.d) := M3.cell 6
  have k7 : w2.cell? ⟨w.heap.size, 7, none⟩ = some (.int .u8 m.cl.e) := M3.cell 7
  have k8 : w2.cell? ⟨w.heap.size, 8, none⟩ = some (.int .u8 m.cl.f) := M3.cell 8
  have k9 : w2.cell? ⟨w.heap.size, 9, none⟩ = some (.int .i64 m.ty) := M3.cell 9
  have f0 := M3.frozen 0
  have f1 := M3.frozen 1
  have f3 := M3.frozen 3
  have f4 := M3.frozen 4
  have f5 := M3.frozen 5
  have f6 := M3.frozen 6
  have f7 := M3.frozen 7
  have f8 := M3.frozen 8
  have f9 := M3.frozen 9
  have n1 : w.heap.size ≠ g := by omega
  have n2 : g ≠ w.heap.size := by omega
  have HM3 := Lib.hid M3; clear M3 X2 hM
  have HB : Hid (Blk ((((((((((w2.setCell ⟨w.heap.size, 9, none⟩ (.int .i64 2)).setCell ⟨w.heap.size, 0, none⟩ (.int .i64 2)).setCell ⟨w.heap.size, 1, none⟩ (.int .u32 5)).setCell ⟨w.heap.size, 3, none⟩ (.int .u8 2)).setCell ⟨w.heap.size, 4, none⟩ (.int .u8 0)).setCell ⟨w.heap.size, 5, none⟩ (.int .u8 0)).setCell ⟨w.heap.size, 6, none⟩ (.int .u8 0)).setCell ⟨w.heap.size, 7, none⟩ (.int .u8 0)).setCell ⟨w.heap.size, 8, none⟩ (.int .u8 1)).setCell ⟨w.heap.size, 0, none⟩ (.int .i64 1)) w.heap.size 27 ({ m with op := 1, id := 5, cl := macI, ty := 2 }).cs.toArray) := (((((((((((HM3.out).set_ 9 (.int .i64 2)).set_ 0 (.int .i64 2)).set_ 1 (.int .u32 5)).set_ 3 (.int .u8 2)).set_ 4 (.int .u8 0)).set_ 5 (.int .u8 0)).set_ 6 (.int .u8 0)).set_ 7 (.int .u8 0)).set_ 8 (.int .u8 1)).set_ 0 (.int .i64 1)).eq_ (by kernel_rfl)
  have HC : Hid (IsC ((((((((((w2.setCell ⟨w.heap.size, 9, none⟩ (.int .i64 2)).setCell ⟨w.heap.size, 0, none⟩ (.int .i64 2)).setCell ⟨w.heap.size, 1, none⟩ (.int .u32 5)).setCell ⟨w.heap.size, 3, none⟩ (.int .u8 2)).setCell ⟨w.heap.size, 4, none⟩ (.int .u8 0)).setCell ⟨w.heap.size, 5, none⟩ (.int .u8 0)).setCell ⟨w.heap.size, 6, none⟩ (.int .u8 0)).setCell ⟨w.heap.size, 7, none⟩ (.int .u8 0)).setCell ⟨w.heap.size, 8, none⟩ (.int .u8 1)).setCell ⟨w.heap.size, 0, none⟩ (.int .i64 1)) b macI (beginS newS 0 5)) := (hC2.only (b := w.heap.size) (only_setCell (p := ⟨w.heap.size, 0, none⟩) (only_setCell (p := ⟨w.heap.size, 8, none⟩) (only_setCell (p := ⟨w.heap.size, 7, none⟩) (only_setCell (p := ⟨w.heap.size, 6, none⟩) (only_setCell (p := ⟨w.heap.size, 5, none⟩) (only_setCell (p := ⟨w.heap.size, 4, none⟩) (only_setCell (p := ⟨w.heap.size, 3, none⟩) (only_setCell (p := ⟨w.heap.size, 1, none⟩) (only_setCell (p := ⟨w.heap.size, 0, none⟩) (only_setCell (p := ⟨w.heap.size, 9, none⟩) (World.grownBy.refl _ _) (.inl rfl) _) (.inl rfl) _) (.inl rfl) _) (.inl rfl) _) (.inl rfl) _) (.inl rfl) _) (.inl rfl) _) (.inl rfl) _) (.inl rfl) _) (.inl rfl) _) (by omega))
  have HG : Hid (w2.grownBy ((((((((((w2.setCell ⟨w.heap.size, 9, none⟩ (.int .i64 2)).setCell ⟨w.heap.size, 0, none⟩ (.int .i64 2)).setCell ⟨w.heap.size, 1, none⟩ (.int .u32 5)).setCell ⟨w.heap.size, 3, none⟩ (.int .u8 2)).setCell ⟨w.heap.size, 4, none⟩ (.int .u8 0)).setCell ⟨w.heap.size, 5, none⟩ (.int .u8 0)).setCell ⟨w.heap.size, 6, none⟩ (.int .u8 0)).setCell ⟨w.heap.size, 7, none⟩ (.int .u8 0)).setCell ⟨w.heap.size, 8, none⟩ (.int .u8 1)).setCell ⟨w.heap.size, 0, none⟩ (.int .i64 1)) (some w.heap.size)) := only_setCell (p := ⟨w.heap.size, 0, none⟩) (only_setCell (p := ⟨w.heap.size, 8, none⟩) (only_setCell (p := ⟨w.heap.size, 7, none⟩) (only_setCell (p := ⟨w.heap.size, 6, none⟩) (only_setCell (p := ⟨w.heap.size, 5, none⟩) (only_setCell (p := ⟨w.heap.size, 4, none⟩) (only_setCell (p := ⟨w.heap.size, 3, none⟩) (only_setCell (p := ⟨w.heap.size, 1, none⟩) (only_setCell (p := ⟨w.heap.size, 0, none⟩) (only_setCell (p := ⟨w.heap.size, 9, none⟩) (World.grownBy.refl _ _) (.inl rfl) _) (.inl rfl) _) (.inl rfl) _) (.inl rfl) _) (.inl rfl) _) (.inl rfl) _) (.inl rfl) _) (.inl rfl) _) (.inl rfl) _) (.inl rfl) _
  have ok1 : (beginS newS 0 5).ok := ⟨by decide, by decide, by decide, by decide, by decide, by decide, by decide, by decide⟩
  go_wp2_with (with_reducible refine wpList_load_blk rfl 27 2 rfl w.heap.size 0 16 (by kernel_rfl) 27 _ ({ m with op := 1, id := 5, cl := macI, ty := 2 }).cs HB.out (by kernel_rfl) _ Try.underlying27 (by kernel_rfl) (by kernel_rfl) ?_)
  refine (hear_op b macI _ { m with op := 1, id := 5, cl := macI, ty := 2 } 1 0 _ HC.out ok1 (by decide) (by decide) (show (1 : Int) ≠ 2 by decide)).mono ?_
  rintro e w3 ⟨v, rfl, rfl, hC3, hg3⟩
  go_wp2_with fail
  refine (stateC b _ _ _ hC3).mono ?_
  rintro e w4 ⟨rfl, rfl⟩
  rw [show (beginS newS 0 5).st = 1 from rfl]
  go_wp2_with fail
  refine (known _).mono ?_
  rintro e w5 ⟨rfl, hb5⟩
  go_wp2
  go_ret
  have z9 := HG.out.size
  exact ⟨rfl, nx ((bw2.trans (below_only HG.out (Nat.le_refl _) bw2.size)).trans (below_only hg3 (by omega) (Nat.le_trans bw2.size z9))) hb5⟩
set_option maxRecDepth 100000 in
set_option maxHeartbeats 1600000 in
theorem leaseIgnores_d (m : Ls) (which : Int) (w : World) (q0 : (bits BinOp.and .i64 which 3 == 0) = false) (q1 : (bits BinOp.and .i64 which 3 == 1) = false) (q2 : (bits BinOp.and .i64 which 3 == 2) = false) :
    Calls Try.prog 3 #[.agg m.cs.toArray, .int .i64 which] w fun e w' => e = .returned (.bool true) ∧ Below w.heap.size w w' := by
  have M0 : Blk (w.alloc (.cells #[.int .i64 m.op, .int .u32 m.id, .int .u32 m.yours, .int .u8 m.cl.a, .int .u8 m.cl.b, .int .u8 m.cl.c, .int .u8 m.cl.d, .int .u8 m.cl.e, .int .u8 m.cl.f, .int .i64 m.ty, .int .u32 m.server, .int .u32 m.asked, .int .i64 m.time, .int .u32 m.mask, .int .u32 m.router, .int .u32 m.resolver] 27)) w.heap.size 27 m.cs.toArray := Blk.new _ _ _
  have X0 : Blk ((w.alloc (.cells #[.int .i64 m.op, .int .u32 m.id, .int .u32 m.yours, .int .u8 m.cl.a, .int .u8 m.cl.b, .int .u8 m.cl.c, .int .u8 m.cl.d, .int .u8 m.cl.e, .int .u8 m.cl.f, .int .i64 m.ty, .int .u32 m.server, .int .u32 m.asked, .int .i64 m.time, .int .u32 m.mask, .int .u32 m.router, .int .u32 m.resolver] 27)).alloc (.cells #[.int .u8 2, .int .u8 0, .int .u8 0, .int .u8 0, .int .u8 0, .int .u8 1] 25)) (w.heap.size + 1) 25 #[.int .u8 2, .int .u8 0, .int .u8 0, .int .u8 0, .int .u8 0, .int .u8 1] := blk_at _ _ _ (by simp)
  have M1 := M0.alloc (.cells #[.int .u8 2, .int .u8 0, .int .u8 0, .int .u8 0, .int .u8 0, .int .u8 1] 25)
  have b0 : Below w.heap.size w ((w.alloc (.cells #[.int .i64 m.op, .int .u32 m.id, .int .u32 m.yours, .int .u8 m.cl.a, .int .u8 m.cl.b, .int .u8 m.cl.c, .int .u8 m.cl.d, .int .u8 m.cl.e, .int .u8 m.cl.f, .int .i64 m.ty, .int .u32 m.server, .int .u32 m.asked, .int .i64 m.time, .int .u32 m.mask, .int .u32 m.router, .int .u32 m.resolver] 27)).alloc (.cells #[.int .u8 2, .int .u8 0, .int .u8 0, .int .u8 0, .int .u8 0, .int .u8 1] 25)) := al (al (rf w) _) _
  simp only [Ls.cs]
  go_enter Try.func3, Try.ntmps3
  go_wp2_with fail
  refine (newC macI _).mono ?_
  rintro e w1 ⟨b, rfl, hb, hC, hb1⟩
  have X1 := X0.nx hb1
  have M2 := M1.nx hb1
  have bw1 := nx b0 hb1
  have z1 : w.heap.size + 1 < b := by have := hb; simp at this; omega
  clear X0 M0 M1 b0 hb1
  go_wp2_with fail
  refine (start_new b _ 0 5 _ hC (by decide) (by decide)).mono ?_
  rintro e w2 ⟨g, rfl, hg, hM, hC2, hg2⟩
  have X2 := X1.only hg2 (by omega)
  have M3 := M2.only hg2 (by omega)
  have bw2 : Below w.heap.size w w2 := bw1.trans (below_only hg2 (by omega) bw1.size)
  have hlt := Blk.lt hC
  have z2 : w.heap.size < g ∧ w.heap.size + 1 < g ∧ b < g := ⟨by omega, by omega, by omega⟩
  have z3 := Blk.lt hM
  clear X1 M2 bw1 hC hg2
  have m1 : w2.cell? ⟨g, 1, none⟩ = some (.int .u32 5) := hM.cell 1
  obtain ⟨x0, x1, x2, x3, x4, x5⟩ := X2.six
  have k0 : w2.cell? ⟨w.heap.size, 0, none⟩ = some (.int .i64 m.op) := M3.cell 0
  have k1 : w2.cell? ⟨w.heap.size, 1, none⟩ = some (.int .u32 m.id) := M3.cell 1
  have k3 : w2.cell? ⟨w.heap.size, 3, none⟩ = some (.int .u8 m.cl.a) := M3.cell 3
  have k4 : w2.cell? ⟨w.heap.size, 4, none⟩ = some (.int .u8 m.cl.b) := M3.cell 4
  have k5 : w2.cell? ⟨w.heap.size, 5, none⟩ = some (.int .u8 m.cl.c) := M3.cell 5
  have k6 : w2.cell? ⟨w.heap.size, 6, none⟩ = some (.int .u8 m.cl.d) := M3.cell 6
  have k7 : w2.cell? ⟨w.heap.size, 7, none⟩ = some (.int .u8 m.cl.e) := M3.cell 7
  have k8 : w2.cell? ⟨w.heap.size, 8, none⟩ = some (.int .u8 m.cl.f) := M3.cell 8
  have k9 : w2.cell? ⟨w.heap.size, 9, none⟩ = some (.int .i64 m.ty) := M3.cell 9
  have f0 := M3.frozen 0
  have f1 := M3.frozen 1
  have f3 := M3.frozen 3
  have f4 := M3.frozen 4
  have f5 := M3.frozen 5
  have f6 := M3.frozen 6
  have f7 := M3.frozen 7
  have f8 := M3.frozen 8
  have f9 := M3.frozen 9
  have n1 : w.heap.size ≠ g := by omega
  have n2 : g ≠ w.heap.size := by omega
  have HM3 := Lib.hid M3; clear M3 X2 hM
  have HB : Hid (Blk ((((((((((w2.setCell ⟨w.heap.size, 9, none⟩ (.int .i64 2)).setCell ⟨w.heap.size, 0, none⟩ (.int .i64 2)).setCell ⟨w.heap.size, 1, none⟩ (.int .u32 5)).setCell ⟨w.heap.size, 3, none⟩ (.int .u8 2)).setCell ⟨w.heap.size, 4, none⟩ (.int .u8 0)).setCell ⟨w.heap.size, 5, none⟩ (.int .u8 0)).setCell ⟨w.heap.size, 6, none⟩ (.int .u8 0)).setCell ⟨w.heap.size, 7, none⟩ (.int .u8 0)).setCell ⟨w.heap.size, 8, none⟩ (.int .u8 1)).setCell ⟨w.heap.size, 9, none⟩ (.int .i64 5)) w.heap.size 27 ({ m with op := 2, id := 5, cl := macI, ty := 5 }).cs.toArray) := (((((((((((HM3.out).set_ 9 (.int .i64 2)).set_ 0 (.int .i64 2)).set_ 1 (.int .u32 5)).set_ 3 (.int .u8 2)).set_ 4 (.int .u8 0)).set_ 5 (.int .u8 0)).set_ 6 (.int .u8 0)).set_ 7 (.int .u8 0)).set_ 8 (.int .u8 1)).set_ 9 (.int .i64 5)).eq_ (by kernel_rfl)
  have HC : Hid (IsC ((((((((((w2.setCell ⟨w.heap.size, 9, none⟩ (.int .i64 2)).setCell ⟨w.heap.size, 0, none⟩ (.int .i64 2)).setCell ⟨w.heap.size, 1, none⟩ (.int .u32 5)).setCell ⟨w.heap.size, 3, none⟩ (.int .u8 2)).setCell ⟨w.heap.size, 4, none⟩ (.int .u8 0)).setCell ⟨w.heap.size, 5, none⟩ (.int .u8 0)).setCell ⟨w.heap.size, 6, none⟩ (.int .u8 0)).setCell ⟨w.heap.size, 7, none⟩ (.int .u8 0)).setCell ⟨w.heap.size, 8, none⟩ (.int .u8 1)).setCell ⟨w.heap.size, 9, none⟩ (.int .i64 5)) b macI (beginS newS 0 5)) := (hC2.only (b := w.heap.size) (only_setCell (p := ⟨w.heap.size, 9, none⟩) (only_setCell (p := ⟨w.heap.size, 8, none⟩) (only_setCell (p := ⟨w.heap.size, 7, none⟩) (only_setCell (p := ⟨w.heap.size, 6, none⟩) (only_setCell (p := ⟨w.heap.size, 5, none⟩) (only_setCell (p := ⟨w.heap.size, 4, none⟩) (only_setCell (p := ⟨w.heap.size, 3, none⟩) (only_setCell (p := ⟨w.heap.size, 1, none⟩) (only_setCell (p := ⟨w.heap.size, 0, none⟩) (only_setCell (p := ⟨w.heap.size, 9, none⟩) (World.grownBy.refl _ _) (.inl rfl) _) (.inl rfl) _) (.inl rfl) _) (.inl rfl) _) (.inl rfl) _) (.inl rfl) _) (.inl rfl) _) (.inl rfl) _) (.inl rfl) _) (.inl rfl) _) (by omega))
  have HG : Hid (w2.grownBy ((((((((((w2.setCell ⟨w.heap.size, 9, none⟩ (.int .i64 2)).setCell ⟨w.heap.size, 0, none⟩ (.int .i64 2)).setCell ⟨w.heap.size, 1, none⟩ (.int .u32 5)).setCell ⟨w.heap.size, 3, none⟩ (.int .u8 2)).setCell ⟨w.heap.size, 4, none⟩ (.int .u8 0)).setCell ⟨w.heap.size, 5, none⟩ (.int .u8 0)).setCell ⟨w.heap.size, 6, none⟩ (.int .u8 0)).setCell ⟨w.heap.size, 7, none⟩ (.int .u8 0)).setCell ⟨w.heap.size, 8, none⟩ (.int .u8 1)).setCell ⟨w.heap.size, 9, none⟩ (.int .i64 5)) (some w.heap.size)) := only_setCell (p := ⟨w.heap.size, 9, none⟩) (only_setCell (p := ⟨w.heap.size, 8, none⟩) (only_setCell (p := ⟨w.heap.size, 7, none⟩) (only_setCell (p := ⟨w.heap.size, 6, none⟩) (only_setCell (p := ⟨w.heap.size, 5, none⟩) (only_setCell (p := ⟨w.heap.size, 4, none⟩) (only_setCell (p := ⟨w.heap.size, 3, none⟩) (only_setCell (p := ⟨w.heap.size, 1, none⟩) (only_setCell (p := ⟨w.heap.size, 0, none⟩) (only_setCell (p := ⟨w.heap.size, 9, none⟩) (World.grownBy.refl _ _) (.inl rfl) _) (.inl rfl) _) (.inl rfl) _) (.inl rfl) _) (.inl rfl) _) (.inl rfl) _) (.inl rfl) _) (.inl rfl) _) (.inl rfl) _) (.inl rfl) _
  have ok1 : (beginS newS 0 5).ok := ⟨by decide, by decide, by decide, by decide, by decide, by decide, by decide, by decide⟩
  go_wp2_with (with_reducible refine wpList_load_blk rfl 27 2 rfl w.heap.size 0 16 (by kernel_rfl) 27 _ ({ m with op := 2, id := 5, cl := macI, ty := 5 }).cs HB.out (by kernel_rfl) _ Try.underlying27 (by kernel_rfl) (by kernel_rfl) ?_)
  refine (hear_1t b macI _ { m with op := 2, id := 5, cl := macI, ty := 5 } 1 0 _ HC.out ok1 (by decide) (by decide) rfl (show (5 : Int) = 5 % 4294967296 by decide) rfl rfl (show (5 : Int) ≠ 2 by decide)).mono ?_
  rintro e w3 ⟨v, rfl, rfl, hC3, hg3⟩
  go_wp2_with fail
  refine (stateC b _ _ _ hC3).mono ?_
  rintro e w4 ⟨rfl, rfl⟩
  rw [show (beginS newS 0 5).st = 1 from rfl]
  go_wp2_with fail
  refine (known _).mono ?_
  rintro e w5 ⟨rfl, hb5⟩
  go_wp2
  go_ret
  have z9 := HG.out.size
  exact ⟨rfl, nx ((bw2.trans (below_only HG.out (Nat.le_refl _) bw2.size)).trans (below_only hg3 (by omega) (Nat.le_trans bw2.size z9))) hb5⟩
theorem leaseIgnores_walk (m : Ls) (which : Int) (w : World) :
    Calls Try.prog 3 #[.agg m.cs.toArray, .int .i64 which] w fun e w' => e = .returned (.bool true) ∧ Below w.heap.size w w' := by
  by_cases q0 : (bits BinOp.and .i64 which 3 == 0) = true
  · exact leaseIgnores_a m which w q0
  · have q0 := Bool.not_eq_true _ ▸ q0
    by_cases q1 : (bits BinOp.and .i64 which 3 == 1) = true
    · exact leaseIgnores_b m which w (by simpa using q0) q1
    · by_cases q2 : (bits BinOp.and .i64 which 3 == 2) = true
      · exact leaseIgnores_c m which w (by simpa using q0) (by simpa using q1) q2
      · exact leaseIgnores_d m which w (by simpa using q0) (by simpa using q1) (by simpa using q2)

set_option maxRecDepth 100000 in
theorem leaseIgnores_lifted (os : Os) (started : os.Started) (H : Type) (enc : TypeId × Value → H) :
    ReturnsInHanded {} Try.checked os 3 .any (Rows.leaseIgnoresSpec.pre6 enc Try.prog Try.f3 Rows.leaseIgnoresRow.domain false) (Rows.leaseIgnoresSpec.post enc Try.prog Try.f3 false true false false) :=
  law_lift started (by kernel_rfl) Try.func3
    (ChangeSpec.witness6 (enc := enc) (C := Try.checked) false ⟨#[], #[.agg #[.int .i64 0, .int .u32 0, .int .u32 0, .int .u8 0, .int .u8 0, .int .u8 0, .int .u8 0, .int .u8 0, .int .u8 0, .int .i64 0, .int .u32 0, .int .u32 0, .int .i64 0, .int .u32 0, .int .u32 0, .int .u32 0], .int .i64 0], []⟩ 8 (by kernel_rfl) (by kernel_rfl) (by kernel_rfl) (by kernel_rfl))
    rfl rfl Try.underlying4 (by kernel_rfl) (fun ds h => match ds, h with | [_, _], _ => rfl)
    (fun W base args ds p hval hA hsz => by
      rw [Try.params3] at hA hval
      obtain ⟨v0, v1, d0, d1, p0, p1, rfl, rfl, rfl, h0, h1⟩ := trodAll_two hA
      obtain ⟨m, rfl⟩ := open_lease (hval 0 27 v0 rfl rfl) h0
      obtain ⟨n, rfl, _, _, _⟩ := open_int Try.underlying3 (hval 1 3 v1 rfl rfl) h1
      exact leaseIgnores_walk m n W)

theorem leaseIgnores_holds : Rows.LeaseIgnoresSaid :=
  OpenClaim.holds_of_wide 3 Try.f3 rfl rfl rfl rfl rfl rfl rfl ⟨rfl, rfl, rfl, rfl, rfl⟩ rfl rfl rfl rfl rfl (by kernel_rfl) Try.func3 (by kernel_rfl)
    (of_decide_eq_true (by kernel_rfl)) (by unfold Func.isWrapper; rw [if_neg (of_decide_eq_false (by kernel_rfl))]; exact ⟨rfl, rfl⟩)
    (fun os started H enc _ => leaseIgnores_lifted os started H enc)
end Go.Proofs.Ytgdlghieifadhaa
