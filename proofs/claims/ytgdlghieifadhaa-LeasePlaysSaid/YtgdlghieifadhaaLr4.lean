/-
  The reference's client of a lease: it is given a lease.
-/
import Derived.Test.YtgdlghieifadhaaLr3
set_option linter.unusedVariables false
namespace Go.Proofs.Ytgdlghieifadhaa
open Go.RowKit

set_option maxHeartbeats 1600000 in
theorem bindsF_x0 (b : Nat) (mac : M6) (s : St) (m : Ls) (x now : Int) (w : World) (h : IsRf w b mac s) (h0 : 0 ≤ now) (h1 : now ≤ 1152921504606846976) (a1 : m.server = 0) (a2 : m.time < 1)
    (HM : Hid (bindL m x = (⟨m.op, m.id, m.yours, m.cl, m.ty, x, m.asked, 3600, m.mask, m.router, m.resolver⟩ : Ls))) :
    Calls Try.prog 42 #[.pointer (some ⟨b, 0, none⟩), .agg m.cs.toArray, .int .u32 x, .int .i64 now] w fun e w' => e = .returned (.tuple #[]) ∧ IsRf w' b mac (bindS s m x now) ∧ w.grownBy w' (some b) := by
  have b1 : ((m.server : Int) == 0) = true := by rw [beq_iff_eq]; exact a1
  clear a1
  have c6 : w.cell? ⟨b, 6, none⟩ = some (.int .i64 s.st) := h.cell 6
  have f6 := Blk.frozen h 6
  have hlt := Blk.lt h
  have hne := World.new_ne w _ c6
  have H1 := Lib.hid (show IsRf ((w.setCell ⟨b, 6, none⟩ (.int .i64 3)).alloc (.cells #[.int .i64 m.op, .int .u32 m.id, .int .u32 m.yours, .int .u8 m.cl.a, .int .u8 m.cl.b, .int .u8 m.cl.c, .int .u8 m.cl.d, .int .u8 m.cl.e, .int .u8 m.cl.f, .int .i64 m.ty, .int .u32 x, .int .u32 m.asked, .int .i64 3600, .int .u32 m.mask, .int .u32 m.router, .int .u32 m.resolver] 27)) b mac { s with st := 3 } from Blk.alloc (h.set 6 (.int .i64 3) { s with st := 3 } rfl) _)
  have M1 : Hid (Blk ((w.setCell ⟨b, 6, none⟩ (.int .i64 3)).alloc (.cells #[.int .i64 m.op, .int .u32 m.id, .int .u32 m.yours, .int .u8 m.cl.a, .int .u8 m.cl.b, .int .u8 m.cl.c, .int .u8 m.cl.d, .int .u8 m.cl.e, .int .u8 m.cl.f, .int .i64 m.ty, .int .u32 x, .int .u32 m.asked, .int .i64 3600, .int .u32 m.mask, .int .u32 m.router, .int .u32 m.resolver] 27)) w.heap.size 27 #[.int .i64 m.op, .int .u32 m.id, .int .u32 m.yours, .int .u8 m.cl.a, .int .u8 m.cl.b, .int .u8 m.cl.c, .int .u8 m.cl.d, .int .u8 m.cl.e, .int .u8 m.cl.f, .int .i64 m.ty, .int .u32 x, .int .u32 m.asked, .int .i64 3600, .int .u32 m.mask, .int .u32 m.router, .int .u32 m.resolver]) := blk_at _ _ _ (by simp)
  have G1 : Hid (w.grownBy ((w.setCell ⟨b, 6, none⟩ (.int .i64 3)).alloc (.cells #[.int .i64 m.op, .int .u32 m.id, .int .u32 m.yours, .int .u8 m.cl.a, .int .u8 m.cl.b, .int .u8 m.cl.c, .int .u8 m.cl.d, .int .u8 m.cl.e, .int .u8 m.cl.f, .int .i64 m.ty, .int .u32 x, .int .u32 m.asked, .int .i64 3600, .int .u32 m.mask, .int .u32 m.router, .int .u32 m.resolver] 27)) (some b)) := only_alloc (only_setCell (p := ⟨b, 6, none⟩) (World.grownBy.refl _ _) (.inl rfl) _) _
  simp only [Ls.cs]
  go_enter Try.func42, Try.ntmps42
  go_wp2_with ((with_reducible refine wpList_store_blk rfl 27 27 25 rfl b 26 (⟨m.op, m.id, m.yours, m.cl, m.ty, x, m.asked, 3600, m.mask, m.router, m.resolver⟩ : Ls).cs (by kernel_rfl) (by kernel_rfl) 46 _ H1.out (by rw [rfCs_len, Ls.len]; decide) (by kernel_rfl) (Ls.one _) ?_); intro w3 hB3 g3; have H3 := Lib.hid (IsRf.lay { s with st := 3, lease := (⟨m.op, m.id, m.yours, m.cl, m.ty, x, m.asked, 3600, m.mask, m.router, m.resolver⟩ : Ls) } hB3 (by kernel_rfl)); have M3 := Blk.only M1.out g3 (by omega); have k12 : w3.cell? ⟨w.heap.size, 12, none⟩ = some (.int .i64 (3600)) := M3.cell 12; have c42 : w3.cell? ⟨b, 42, none⟩ = some (.int .i64 s.fr) := H3.out.cell 42; have f42 := Blk.frozen H3.out 42; have c8 : w3.cell? ⟨b, 8, none⟩ = some (.int .i64 s.next) := H3.out.cell 8; have f8 := Blk.frozen H3.out 8; have n1 : w.heap.size ≠ b := by omega)
  refine (later now (18000) _ h0 (by omega) (by omega) (by omega)).mono ?_
  rintro e w5 ⟨rfl, rfl⟩
  have H5 := Lib.hid ((H3.out.set 42 (.int .i64 now) { s with st := 3, lease := (⟨m.op, m.id, m.yours, m.cl, m.ty, x, m.asked, 3600, m.mask, m.router, m.resolver⟩ : Ls), fr := now } rfl).set 8 (.int .i64 (now + 18000)) { s with st := 3, lease := (⟨m.op, m.id, m.yours, m.cl, m.ty, x, m.asked, 3600, m.mask, m.router, m.resolver⟩ : Ls), fr := now, next := now + 18000 } rfl)
  go_wp2
  go_end0
  refine ⟨rfl, ?_, only_setCell (p := ⟨b, 8, none⟩) (only_setCell (p := ⟨b, 42, none⟩) (only_trans G1.out g3) (.inl rfl) _) (.inl rfl) _⟩
  unfold bindS
  rw [HM.out]
  show IsRf _ b mac { s with st := 3, lease := (⟨m.op, m.id, m.yours, m.cl, m.ty, x, m.asked, 3600, m.mask, m.router, m.resolver⟩ : Ls), fr := now, next := now + 10 * (3600) / 2 }
  rw [show (10 : Int) * (3600) / 2 = 18000 by omega]
  exact H5.out
set_option maxHeartbeats 1600000 in
theorem bindsF_x1 (b : Nat) (mac : M6) (s : St) (m : Ls) (x now : Int) (w : World) (h : IsRf w b mac s) (h0 : 0 ≤ now) (h1 : now ≤ 1152921504606846976) (a1 : m.server = 0) (a2 : 1 ≤ m.time) (a3 : m.time ≤ 2147483647)
    (HM : Hid (bindL m x = (⟨m.op, m.id, m.yours, m.cl, m.ty, x, m.asked, m.time, m.mask, m.router, m.resolver⟩ : Ls))) :
    Calls Try.prog 42 #[.pointer (some ⟨b, 0, none⟩), .agg m.cs.toArray, .int .u32 x, .int .i64 now] w fun e w' => e = .returned (.tuple #[]) ∧ IsRf w' b mac (bindS s m x now) ∧ w.grownBy w' (some b) := by
  have b1 : ((m.server : Int) == 0) = true := by rw [beq_iff_eq]; exact a1
  clear a1
  have c6 : w.cell? ⟨b, 6, none⟩ = some (.int .i64 s.st) := h.cell 6
  have f6 := Blk.frozen h 6
  have hlt := Blk.lt h
  have hne := World.new_ne w _ c6
  have H1 := Lib.hid (show IsRf ((w.setCell ⟨b, 6, none⟩ (.int .i64 3)).alloc (.cells #[.int .i64 m.op, .int .u32 m.id, .int .u32 m.yours, .int .u8 m.cl.a, .int .u8 m.cl.b, .int .u8 m.cl.c, .int .u8 m.cl.d, .int .u8 m.cl.e, .int .u8 m.cl.f, .int .i64 m.ty, .int .u32 x, .int .u32 m.asked, .int .i64 m.time, .int .u32 m.mask, .int .u32 m.router, .int .u32 m.resolver] 27)) b mac { s with st := 3 } from Blk.alloc (h.set 6 (.int .i64 3) { s with st := 3 } rfl) _)
  have M1 : Hid (Blk ((w.setCell ⟨b, 6, none⟩ (.int .i64 3)).alloc (.cells #[.int .i64 m.op, .int .u32 m.id, .int .u32 m.yours, .int .u8 m.cl.a, .int .u8 m.cl.b, .int .u8 m.cl.c, .int .u8 m.cl.d, .int .u8 m.cl.e, .int .u8 m.cl.f, .int .i64 m.ty, .int .u32 x, .int .u32 m.asked, .int .i64 m.time, .int .u32 m.mask, .int .u32 m.router, .int .u32 m.resolver] 27)) w.heap.size 27 #[.int .i64 m.op, .int .u32 m.id, .int .u32 m.yours, .int .u8 m.cl.a, .int .u8 m.cl.b, .int .u8 m.cl.c, .int .u8 m.cl.d, .int .u8 m.cl.e, .int .u8 m.cl.f, .int .i64 m.ty, .int .u32 x, .int .u32 m.asked, .int .i64 m.time, .int .u32 m.mask, .int .u32 m.router, .int .u32 m.resolver]) := blk_at _ _ _ (by simp)
  have G1 : Hid (w.grownBy ((w.setCell ⟨b, 6, none⟩ (.int .i64 3)).alloc (.cells #[.int .i64 m.op, .int .u32 m.id, .int .u32 m.yours, .int .u8 m.cl.a, .int .u8 m.cl.b, .int .u8 m.cl.c, .int .u8 m.cl.d, .int .u8 m.cl.e, .int .u8 m.cl.f, .int .i64 m.ty, .int .u32 x, .int .u32 m.asked, .int .i64 m.time, .int .u32 m.mask, .int .u32 m.router, .int .u32 m.resolver] 27)) (some b)) := only_alloc (only_setCell (p := ⟨b, 6, none⟩) (World.grownBy.refl _ _) (.inl rfl) _) _
  simp only [Ls.cs]
  go_enter Try.func42, Try.ntmps42
  go_wp2_with ((with_reducible refine wpList_store_blk rfl 27 27 25 rfl b 26 (⟨m.op, m.id, m.yours, m.cl, m.ty, x, m.asked, m.time, m.mask, m.router, m.resolver⟩ : Ls).cs (by kernel_rfl) (by kernel_rfl) 46 _ H1.out (by rw [rfCs_len, Ls.len]; decide) (by kernel_rfl) (Ls.one _) ?_); intro w3 hB3 g3; have H3 := Lib.hid (IsRf.lay { s with st := 3, lease := (⟨m.op, m.id, m.yours, m.cl, m.ty, x, m.asked, m.time, m.mask, m.router, m.resolver⟩ : Ls) } hB3 (by kernel_rfl)); have M3 := Blk.only M1.out g3 (by omega); have k12 : w3.cell? ⟨w.heap.size, 12, none⟩ = some (.int .i64 (m.time)) := M3.cell 12; have c42 : w3.cell? ⟨b, 42, none⟩ = some (.int .i64 s.fr) := H3.out.cell 42; have f42 := Blk.frozen H3.out 42; have c8 : w3.cell? ⟨b, 8, none⟩ = some (.int .i64 s.next) := H3.out.cell 8; have f8 := Blk.frozen H3.out 8; have n1 : w.heap.size ≠ b := by omega)
  refine (later now (10 * m.time / 2) _ h0 (by omega) (by omega) (by omega)).mono ?_
  rintro e w5 ⟨rfl, rfl⟩
  have H5 := Lib.hid ((H3.out.set 42 (.int .i64 now) { s with st := 3, lease := (⟨m.op, m.id, m.yours, m.cl, m.ty, x, m.asked, m.time, m.mask, m.router, m.resolver⟩ : Ls), fr := now } rfl).set 8 (.int .i64 (now + 10 * m.time / 2)) { s with st := 3, lease := (⟨m.op, m.id, m.yours, m.cl, m.ty, x, m.asked, m.time, m.mask, m.router, m.resolver⟩ : Ls), fr := now, next := now + 10 * m.time / 2 } rfl)
  go_wp2
  go_end0
  refine ⟨rfl, ?_, only_setCell (p := ⟨b, 8, none⟩) (only_setCell (p := ⟨b, 42, none⟩) (only_trans G1.out g3) (.inl rfl) _) (.inl rfl) _⟩
  unfold bindS
  rw [HM.out]
  show IsRf _ b mac { s with st := 3, lease := (⟨m.op, m.id, m.yours, m.cl, m.ty, x, m.asked, m.time, m.mask, m.router, m.resolver⟩ : Ls), fr := now, next := now + 10 * (m.time) / 2 }
  rw [show (10 : Int) * (m.time) / 2 = 10 * m.time / 2 by omega]
  exact H5.out
set_option maxHeartbeats 1600000 in
theorem bindsF_x2 (b : Nat) (mac : M6) (s : St) (m : Ls) (x now : Int) (w : World) (h : IsRf w b mac s) (h0 : 0 ≤ now) (h1 : now ≤ 1152921504606846976) (a1 : m.server = 0) (a2 : 2147483647 < m.time)
    (HM : Hid (bindL m x = (⟨m.op, m.id, m.yours, m.cl, m.ty, x, m.asked, 2147483647, m.mask, m.router, m.resolver⟩ : Ls))) :
    Calls Try.prog 42 #[.pointer (some ⟨b, 0, none⟩), .agg m.cs.toArray, .int .u32 x, .int .i64 now] w fun e w' => e = .returned (.tuple #[]) ∧ IsRf w' b mac (bindS s m x now) ∧ w.grownBy w' (some b) := by
  have b1 : ((m.server : Int) == 0) = true := by rw [beq_iff_eq]; exact a1
  clear a1
  have c6 : w.cell? ⟨b, 6, none⟩ = some (.int .i64 s.st) := h.cell 6
  have f6 := Blk.frozen h 6
  have hlt := Blk.lt h
  have hne := World.new_ne w _ c6
  have H1 := Lib.hid (show IsRf ((w.setCell ⟨b, 6, none⟩ (.int .i64 3)).alloc (.cells #[.int .i64 m.op, .int .u32 m.id, .int .u32 m.yours, .int .u8 m.cl.a, .int .u8 m.cl.b, .int .u8 m.cl.c, .int .u8 m.cl.d, .int .u8 m.cl.e, .int .u8 m.cl.f, .int .i64 m.ty, .int .u32 x, .int .u32 m.asked, .int .i64 2147483647, .int .u32 m.mask, .int .u32 m.router, .int .u32 m.resolver] 27)) b mac { s with st := 3 } from Blk.alloc (h.set 6 (.int .i64 3) { s with st := 3 } rfl) _)
  have M1 : Hid (Blk ((w.setCell ⟨b, 6, none⟩ (.int .i64 3)).alloc (.cells #[.int .i64 m.op, .int .u32 m.id, .int .u32 m.yours, .int .u8 m.cl.a, .int .u8 m.cl.b, .int .u8 m.cl.c, .int .u8 m.cl.d, .int .u8 m.cl.e, .int .u8 m.cl.f, .int .i64 m.ty, .int .u32 x, .int .u32 m.asked, .int .i64 2147483647, .int .u32 m.mask, .int .u32 m.router, .int .u32 m.resolver] 27)) w.heap.size 27 #[.int .i64 m.op, .int .u32 m.id, .int .u32 m.yours, .int .u8 m.cl.a, .int .u8 m.cl.b, .int .u8 m.cl.c, .int .u8 m.cl.d, .int .u8 m.cl.e, .int .u8 m.cl.f, .int .i64 m.ty, .int .u32 x, .int .u32 m.asked, .int .i64 2147483647, .int .u32 m.mask, .int .u32 m.router, .int .u32 m.resolver]) := blk_at _ _ _ (by simp)
  have G1 : Hid (w.grownBy ((w.setCell ⟨b, 6, none⟩ (.int .i64 3)).alloc (.cells #[.int .i64 m.op, .int .u32 m.id, .int .u32 m.yours, .int .u8 m.cl.a, .int .u8 m.cl.b, .int .u8 m.cl.c, .int .u8 m.cl.d, .int .u8 m.cl.e, .int .u8 m.cl.f, .int .i64 m.ty, .int .u32 x, .int .u32 m.asked, .int .i64 2147483647, .int .u32 m.mask, .int .u32 m.router, .int .u32 m.resolver] 27)) (some b)) := only_alloc (only_setCell (p := ⟨b, 6, none⟩) (World.grownBy.refl _ _) (.inl rfl) _) _
  simp only [Ls.cs]
  go_enter Try.func42, Try.ntmps42
  go_wp2_with ((with_reducible refine wpList_store_blk rfl 27 27 25 rfl b 26 (⟨m.op, m.id, m.yours, m.cl, m.ty, x, m.asked, 2147483647, m.mask, m.router, m.resolver⟩ : Ls).cs (by kernel_rfl) (by kernel_rfl) 46 _ H1.out (by rw [rfCs_len, Ls.len]; decide) (by kernel_rfl) (Ls.one _) ?_); intro w3 hB3 g3; have H3 := Lib.hid (IsRf.lay { s with st := 3, lease := (⟨m.op, m.id, m.yours, m.cl, m.ty, x, m.asked, 2147483647, m.mask, m.router, m.resolver⟩ : Ls) } hB3 (by kernel_rfl)); have M3 := Blk.only M1.out g3 (by omega); have k12 : w3.cell? ⟨w.heap.size, 12, none⟩ = some (.int .i64 (2147483647)) := M3.cell 12; have c42 : w3.cell? ⟨b, 42, none⟩ = some (.int .i64 s.fr) := H3.out.cell 42; have f42 := Blk.frozen H3.out 42; have c8 : w3.cell? ⟨b, 8, none⟩ = some (.int .i64 s.next) := H3.out.cell 8; have f8 := Blk.frozen H3.out 8; have n1 : w.heap.size ≠ b := by omega)
  refine (later now (10737418235) _ h0 (by omega) (by omega) (by omega)).mono ?_
  rintro e w5 ⟨rfl, rfl⟩
  have H5 := Lib.hid ((H3.out.set 42 (.int .i64 now) { s with st := 3, lease := (⟨m.op, m.id, m.yours, m.cl, m.ty, x, m.asked, 2147483647, m.mask, m.router, m.resolver⟩ : Ls), fr := now } rfl).set 8 (.int .i64 (now + 10737418235)) { s with st := 3, lease := (⟨m.op, m.id, m.yours, m.cl, m.ty, x, m.asked, 2147483647, m.mask, m.router, m.resolver⟩ : Ls), fr := now, next := now + 10737418235 } rfl)
  go_wp2
  go_end0
  refine ⟨rfl, ?_, only_setCell (p := ⟨b, 8, none⟩) (only_setCell (p := ⟨b, 42, none⟩) (only_trans G1.out g3) (.inl rfl) _) (.inl rfl) _⟩
  unfold bindS
  rw [HM.out]
  show IsRf _ b mac { s with st := 3, lease := (⟨m.op, m.id, m.yours, m.cl, m.ty, x, m.asked, 2147483647, m.mask, m.router, m.resolver⟩ : Ls), fr := now, next := now + 10 * (2147483647) / 2 }
  rw [show (10 : Int) * (2147483647) / 2 = 10737418235 by omega]
  exact H5.out
set_option maxHeartbeats 1600000 in
theorem bindsF_m0 (b : Nat) (mac : M6) (s : St) (m : Ls) (sv now : Int) (w : World) (h : IsRf w b mac s) (h0 : 0 ≤ now) (h1 : now ≤ 1152921504606846976) (a1 : m.server ≠ 0) (a2 : m.time < 1)
    (HM : Hid (bindL m sv = (⟨m.op, m.id, m.yours, m.cl, m.ty, m.server, m.asked, 3600, m.mask, m.router, m.resolver⟩ : Ls))) :
    Calls Try.prog 42 #[.pointer (some ⟨b, 0, none⟩), .agg m.cs.toArray, .int .u32 sv, .int .i64 now] w fun e w' => e = .returned (.tuple #[]) ∧ IsRf w' b mac (bindS s m sv now) ∧ w.grownBy w' (some b) := by
  have b1 : ((m.server : Int) == 0) = false := by rw [beq_eq_false_iff_ne]; exact a1
  clear a1
  have c6 : w.cell? ⟨b, 6, none⟩ = some (.int .i64 s.st) := h.cell 6
  have f6 := Blk.frozen h 6
  have hlt := Blk.lt h
  have hne := World.new_ne w _ c6
  have H1 := Lib.hid (show IsRf ((w.setCell ⟨b, 6, none⟩ (.int .i64 3)).alloc (.cells #[.int .i64 m.op, .int .u32 m.id, .int .u32 m.yours, .int .u8 m.cl.a, .int .u8 m.cl.b, .int .u8 m.cl.c, .int .u8 m.cl.d, .int .u8 m.cl.e, .int .u8 m.cl.f, .int .i64 m.ty, .int .u32 m.server, .int .u32 m.asked, .int .i64 3600, .int .u32 m.mask, .int .u32 m.router, .int .u32 m.resolver] 27)) b mac { s with st := 3 } from Blk.alloc (h.set 6 (.int .i64 3) { s with st := 3 } rfl) _)
  have M1 : Hid (Blk ((w.setCell ⟨b, 6, none⟩ (.int .i64 3)).alloc (.cells #[.int .i64 m.op, .int .u32 m.id, .int .u32 m.yours, .int .u8 m.cl.a, .int .u8 m.cl.b, .int .u8 m.cl.c, .int .u8 m.cl.d, .int .u8 m.cl.e, .int .u8 m.cl.f, .int .i64 m.ty, .int .u32 m.server, .int .u32 m.asked, .int .i64 3600, .int .u32 m.mask, .int .u32 m.router, .int .u32 m.resolver] 27)) w.heap.size 27 #[.int .i64 m.op, .int .u32 m.id, .int .u32 m.yours, .int .u8 m.cl.a, .int .u8 m.cl.b, .int .u8 m.cl.c, .int .u8 m.cl.d, .int .u8 m.cl.e, .int .u8 m.cl.f, .int .i64 m.ty, .int .u32 m.server, .int .u32 m.asked, .int .i64 3600, .int .u32 m.mask, .int .u32 m.router, .int .u32 m.resolver]) := blk_at _ _ _ (by simp)
  have G1 : Hid (w.grownBy ((w.setCell ⟨b, 6, none⟩ (.int .i64 3)).alloc (.cells #[.int .i64 m.op, .int .u32 m.id, .int .u32 m.yours, .int .u8 m.cl.a, .int .u8 m.cl.b, .int .u8 m.cl.c, .int .u8 m.cl.d, .int .u8 m.cl.e, .int .u8 m.cl.f, .int .i64 m.ty, .int .u32 m.server, .int .u32 m.asked, .int .i64 3600, .int .u32 m.mask, .int .u32 m.router, .int .u32 m.resolver] 27)) (some b)) := only_alloc (only_setCell (p := ⟨b, 6, none⟩) (World.grownBy.refl _ _) (.inl rfl) _) _
  simp only [Ls.cs]
  go_enter Try.func42, Try.ntmps42
  go_wp2_with ((with_reducible refine wpList_store_blk rfl 27 27 25 rfl b 26 (⟨m.op, m.id, m.yours, m.cl, m.ty, m.server, m.asked, 3600, m.mask, m.router, m.resolver⟩ : Ls).cs (by kernel_rfl) (by kernel_rfl) 46 _ H1.out (by rw [rfCs_len, Ls.len]; decide) (by kernel_rfl) (Ls.one _) ?_); intro w3 hB3 g3; have H3 := Lib.hid (IsRf.lay { s with st := 3, lease := (⟨m.op, m.id, m.yours, m.cl, m.ty, m.server, m.asked, 3600, m.mask, m.router, m.resolver⟩ : Ls) } hB3 (by kernel_rfl)); have M3 := Blk.only M1.out g3 (by omega); have k12 : w3.cell? ⟨w.heap.size, 12, none⟩ = some (.int .i64 (3600)) := M3.cell 12; have c42 : w3.cell? ⟨b, 42, none⟩ = some (.int .i64 s.fr) := H3.out.cell 42; have f42 := Blk.frozen H3.out 42; have c8 : w3.cell? ⟨b, 8, none⟩ = some (.int .i64 s.next) := H3.out.cell 8; have f8 := Blk.frozen H3.out 8; have n1 : w.heap.size ≠ b := by omega)
  refine (later now (18000) _ h0 (by omega) (by omega) (by omega)).mono ?_
  rintro e w5 ⟨rfl, rfl⟩
  have H5 := Lib.hid ((H3.out.set 42 (.int .i64 now) { s with st := 3, lease := (⟨m.op, m.id, m.yours, m.cl, m.ty, m.server, m.asked, 3600, m.mask, m.router, m.resolver⟩ : Ls), fr := now } rfl).set 8 (.int .i64 (now + 18000)) { s with st := 3, lease := (⟨m.op, m.id, m.yours, m.cl, m.ty, m.server, m.asked, 3600, m.mask, m.router, m.resolver⟩ : Ls), fr := now, next := now + 18000 } rfl)
  go_wp2
  go_end0
  refine ⟨rfl, ?_, only_setCell (p := ⟨b, 8, none⟩) (only_setCell (p := ⟨b, 42, none⟩) (only_trans G1.out g3) (.inl rfl) _) (.inl rfl) _⟩
  unfold bindS
  rw [HM.out]
  show IsRf _ b mac { s with st := 3, lease := (⟨m.op, m.id, m.yours, m.cl, m.ty, m.server, m.asked, 3600, m.mask, m.router, m.resolver⟩ : Ls), fr := now, next := now + 10 * (3600) / 2 }
  rw [show (10 : Int) * (3600) / 2 = 18000 by omega]
  exact H5.out
set_option maxHeartbeats 1600000 in
theorem bindsF_m1 (b : Nat) (mac : M6) (s : St) (m : Ls) (sv now : Int) (w : World) (h : IsRf w b mac s) (h0 : 0 ≤ now) (h1 : now ≤ 1152921504606846976) (a1 : m.server ≠ 0) (a2 : 1 ≤ m.time) (a3 : m.time ≤ 2147483647)
    (HM : Hid (bindL m sv = (⟨m.op, m.id, m.yours, m.cl, m.ty, m.server, m.asked, m.time, m.mask, m.router, m.resolver⟩ : Ls))) :
    Calls Try.prog 42 #[.pointer (some ⟨b, 0, none⟩), .agg m.cs.toArray, .int .u32 sv, .int .i64 now] w fun e w' => e = .returned (.tuple #[]) ∧ IsRf w' b mac (bindS s m sv now) ∧ w.grownBy w' (some b) := by
  have b1 : ((m.server : Int) == 0) = false := by rw [beq_eq_false_iff_ne]; exact a1
  clear a1
  have c6 : w.cell? ⟨b, 6, none⟩ = some (.int .i64 s.st) := h.cell 6
  have f6 := Blk.frozen h 6
  have hlt := Blk.lt h
  have hne := World.new_ne w _ c6
  have H1 := Lib.hid (show IsRf ((w.setCell ⟨b, 6, none⟩ (.int .i64 3)).alloc (.cells #[.int .i64 m.op, .int .u32 m.id, .int .u32 m.yours, .int .u8 m.cl.a, .int .u8 m.cl.b, .int .u8 m.cl.c, .int .u8 m.cl.d, .int .u8 m.cl.e, .int .u8 m.cl.f, .int .i64 m.ty, .int .u32 m.server, .int .u32 m.asked, .int .i64 m.time, .int .u32 m.mask, .int .u32 m.router, .int .u32 m.resolver] 27)) b mac { s with st := 3 } from Blk.alloc (h.set 6 (.int .i64 3) { s with st := 3 } rfl) _)
  have M1 : Hid (Blk ((w.setCell ⟨b, 6, none⟩ (.int .i64 3)).alloc (.cells #[.int .i64 m.op, .int .u32 m.id, .int .u32 m.yours, .int .u8 m.cl.a, .int .u8 m.cl.b, .int .u8 m.cl.c, .int .u8 m.cl.d, .int .u8 m.cl.e, .int .u8 m.cl.f, .int .i64 m.ty, .int .u32 m.server, .int .u32 m.asked, .int .i64 m.time, .int .u32 m.mask, .int .u32 m.router, .int .u32 m.resolver] 27)) w.heap.size 27 #[.int .i64 m.op, .int .u32 m.id, .int .u32 m.yours, .int .u8 m.cl.a, .int .u8 m.cl.b, .int .u8 m.cl.c, .int .u8 m.cl.d, .int .u8 m.cl.e, .int .u8 m.cl.f, .int .i64 m.ty, .int .u32 m.server, .int .u32 m.asked, .int .i64 m.time, .int .u32 m.mask, .int .u32 m.router, .int .u32 m.resolver]) := blk_at _ _ _ (by simp)
  have G1 : Hid (w.grownBy ((w.setCell ⟨b, 6, none⟩ (.int .i64 3)).alloc (.cells #[.int .i64 m.op, .int .u32 m.id, .int .u32 m.yours, .int .u8 m.cl.a, .int .u8 m.cl.b, .int .u8 m.cl.c, .int .u8 m.cl.d, .int .u8 m.cl.e, .int .u8 m.cl.f, .int .i64 m.ty, .int .u32 m.server, .int .u32 m.asked, .int .i64 m.time, .int .u32 m.mask, .int .u32 m.router, .int .u32 m.resolver] 27)) (some b)) := only_alloc (only_setCell (p := ⟨b, 6, none⟩) (World.grownBy.refl _ _) (.inl rfl) _) _
  simp only [Ls.cs]
  go_enter Try.func42, Try.ntmps42
  go_wp2_with ((with_reducible refine wpList_store_blk rfl 27 27 25 rfl b 26 (⟨m.op, m.id, m.yours, m.cl, m.ty, m.server, m.asked, m.time, m.mask, m.router, m.resolver⟩ : Ls).cs (by kernel_rfl) (by kernel_rfl) 46 _ H1.out (by rw [rfCs_len, Ls.len]; decide) (by kernel_rfl) (Ls.one _) ?_); intro w3 hB3 g3; have H3 := Lib.hid (IsRf.lay { s with st := 3, lease := (⟨m.op, m.id, m.yours, m.cl, m.ty, m.server, m.asked, m.time, m.mask, m.router, m.resolver⟩ : Ls) } hB3 (by kernel_rfl)); have M3 := Blk.only M1.out g3 (by omega); have k12 : w3.cell? ⟨w.heap.size, 12, none⟩ = some (.int .i64 (m.time)) := M3.cell 12; have c42 : w3.cell? ⟨b, 42, none⟩ = some (.int .i64 s.fr) := H3.out.cell 42; have f42 := Blk.frozen H3.out 42; have c8 : w3.cell? ⟨b, 8, none⟩ = some (.int .i64 s.next) := H3.out.cell 8; have f8 := Blk.frozen H3.out 8; have n1 : w.heap.size ≠ b := by omega)
  refine (later now (10 * m.time / 2) _ h0 (by omega) (by omega) (by omega)).mono ?_
  rintro e w5 ⟨rfl, rfl⟩
  have H5 := Lib.hid ((H3.out.set 42 (.int .i64 now) { s with st := 3, lease := (⟨m.op, m.id, m.yours, m.cl, m.ty, m.server, m.asked, m.time, m.mask, m.router, m.resolver⟩ : Ls), fr := now } rfl).set 8 (.int .i64 (now + 10 * m.time / 2)) { s with st := 3, lease := (⟨m.op, m.id, m.yours, m.cl, m.ty, m.server, m.asked, m.time, m.mask, m.router, m.resolver⟩ : Ls), fr := now, next := now + 10 * m.time / 2 } rfl)
  go_wp2
  go_end0
  refine ⟨rfl, ?_, only_setCell (p := ⟨b, 8, none⟩) (only_setCell (p := ⟨b, 42, none⟩) (only_trans G1.out g3) (.inl rfl) _) (.inl rfl) _⟩
  unfold bindS
  rw [HM.out]
  show IsRf _ b mac { s with st := 3, lease := (⟨m.op, m.id, m.yours, m.cl, m.ty, m.server, m.asked, m.time, m.mask, m.router, m.resolver⟩ : Ls), fr := now, next := now + 10 * (m.time) / 2 }
  rw [show (10 : Int) * (m.time) / 2 = 10 * m.time / 2 by omega]
  exact H5.out
set_option maxHeartbeats 1600000 in
theorem bindsF_m2 (b : Nat) (mac : M6) (s : St) (m : Ls) (sv now : Int) (w : World) (h : IsRf w b mac s) (h0 : 0 ≤ now) (h1 : now ≤ 1152921504606846976) (a1 : m.server ≠ 0) (a2 : 2147483647 < m.time)
    (HM : Hid (bindL m sv = (⟨m.op, m.id, m.yours, m.cl, m.ty, m.server, m.asked, 2147483647, m.mask, m.router, m.resolver⟩ : Ls))) :
    Calls Try.prog 42 #[.pointer (some ⟨b, 0, none⟩), .agg m.cs.toArray, .int .u32 sv, .int .i64 now] w fun e w' => e = .returned (.tuple #[]) ∧ IsRf w' b mac (bindS s m sv now) ∧ w.grownBy w' (some b) := by
  have b1 : ((m.server : Int) == 0) = false := by rw [beq_eq_false_iff_ne]; exact a1
  clear a1
  have c6 : w.cell? ⟨b, 6, none⟩ = some (.int .i64 s.st) := h.cell 6
  have f6 := Blk.frozen h 6
  have hlt := Blk.lt h
  have hne := World.new_ne w _ c6
  have H1 := Lib.hid (show IsRf ((w.setCell ⟨b, 6, none⟩ (.int .i64 3)).alloc (.cells #[.int .i64 m.op, .int .u32 m.id, .int .u32 m.yours, .int .u8 m.cl.a, .int .u8 m.cl.b, .int .u8 m.cl.c, .int .u8 m.cl.d, .int .u8 m.cl.e, .int .u8 m.cl.f, .int .i64 m.ty, .int .u32 m.server, .int .u32 m.asked, .int .i64 2147483647, .int .u32 m.mask, .int .u32 m.router, .int .u32 m.resolver] 27)) b mac { s with st := 3 } from Blk.alloc (h.set 6 (.int .i64 3) { s with st := 3 } rfl) _)
  have M1 : Hid (Blk ((w.setCell ⟨b, 6, none⟩ (.int .i64 3)).alloc (.cells #[.int .i64 m.op, .int .u32 m.id, .int .u32 m.yours, .int .u8 m.cl.a, .int .u8 m.cl.b, .int .u8 m.cl.c, .int .u8 m.cl.d, .int .u8 m.cl.e, .int .u8 m.cl.f, .int .i64 m.ty, .int .u32 m.server, .int .u32 m.asked, .int .i64 2147483647, .int .u32 m.mask, .int .u32 m.router, .int .u32 m.resolver] 27)) w.heap.size 27 #[.int .i64 m.op, .int .u32 m.id, .int .u32 m.yours, .int .u8 m.cl.a, .int .u8 m.cl.b, .int .u8 m.cl.c, .int .u8 m.cl.d, .int .u8 m.cl.e, .int .u8 m.cl.f, .int .i64 m.ty, .int .u32 m.server, .int .u32 m.asked, .int .i64 2147483647, .int .u32 m.mask, .int .u32 m.router, .int .u32 m.resolver]) := blk_at _ _ _ (by simp)
  have G1 : Hid (w.grownBy ((w.setCell ⟨b, 6, none⟩ (.int .i64 3)).alloc (.cells #[.int .i64 m.op, .int .u32 m.id, .int .u32 m.yours, .int .u8 m.cl.a, .int .u8 m.cl.b, .int .u8 m.cl.c, .int .u8 m.cl.d, .int .u8 m.cl.e, .int .u8 m.cl.f, .int .i64 m.ty, .int .u32 m.server, .int .u32 m.asked, .int .i64 2147483647, .int .u32 m.mask, .int .u32 m.router, .int .u32 m.resolver] 27)) (some b)) := only_alloc (only_setCell (p := ⟨b, 6, none⟩) (World.grownBy.refl _ _) (.inl rfl) _) _
  simp only [Ls.cs]
  go_enter Try.func42, Try.ntmps42
  go_wp2_with ((with_reducible refine wpList_store_blk rfl 27 27 25 rfl b 26 (⟨m.op, m.id, m.yours, m.cl, m.ty, m.server, m.asked, 2147483647, m.mask, m.router, m.resolver⟩ : Ls).cs (by kernel_rfl) (by kernel_rfl) 46 _ H1.out (by rw [rfCs_len, Ls.len]; decide) (by kernel_rfl) (Ls.one _) ?_); intro w3 hB3 g3; have H3 := Lib.hid (IsRf.lay { s with st := 3, lease := (⟨m.op, m.id, m.yours, m.cl, m.ty, m.server, m.asked, 2147483647, m.mask, m.router, m.resolver⟩ : Ls) } hB3 (by kernel_rfl)); have M3 := Blk.only M1.out g3 (by omega); have k12 : w3.cell? ⟨w.heap.size, 12, none⟩ = some (.int .i64 (2147483647)) := M3.cell 12; have c42 : w3.cell? ⟨b, 42, none⟩ = some (.int .i64 s.fr) := H3.out.cell 42; have f42 := Blk.frozen H3.out 42; have c8 : w3.cell? ⟨b, 8, none⟩ = some (.int .i64 s.next) := H3.out.cell 8; have f8 := Blk.frozen H3.out 8; have n1 : w.heap.size ≠ b := by omega)
  refine (later now (10737418235) _ h0 (by omega) (by omega) (by omega)).mono ?_
  rintro e w5 ⟨rfl, rfl⟩
  have H5 := Lib.hid ((H3.out.set 42 (.int .i64 now) { s with st := 3, lease := (⟨m.op, m.id, m.yours, m.cl, m.ty, m.server, m.asked, 2147483647, m.mask, m.router, m.resolver⟩ : Ls), fr := now } rfl).set 8 (.int .i64 (now + 10737418235)) { s with st := 3, lease := (⟨m.op, m.id, m.yours, m.cl, m.ty, m.server, m.asked, 2147483647, m.mask, m.router, m.resolver⟩ : Ls), fr := now, next := now + 10737418235 } rfl)
  go_wp2
  go_end0
  refine ⟨rfl, ?_, only_setCell (p := ⟨b, 8, none⟩) (only_setCell (p := ⟨b, 42, none⟩) (only_trans G1.out g3) (.inl rfl) _) (.inl rfl) _⟩
  unfold bindS
  rw [HM.out]
  show IsRf _ b mac { s with st := 3, lease := (⟨m.op, m.id, m.yours, m.cl, m.ty, m.server, m.asked, 2147483647, m.mask, m.router, m.resolver⟩ : Ls), fr := now, next := now + 10 * (2147483647) / 2 }
  rw [show (10 : Int) * (2147483647) / 2 = 10737418235 by omega]
  exact H5.out
theorem bindsF (b : Nat) (mac : M6) (s : St) (m : Ls) (sv now : Int) (w : World) (h : IsRf w b mac s) (h0 : 0 ≤ now) (h1 : now ≤ 1152921504606846976) :
    Calls Try.prog 42 #[.pointer (some ⟨b, 0, none⟩), .agg m.cs.toArray, .int .u32 sv, .int .i64 now] w fun e w' => e = .returned (.tuple #[]) ∧ IsRf w' b mac (bindS s m sv now) ∧ w.grownBy w' (some b) := by
  obtain ⟨x, y, q1, q2, HM⟩ := bindL_cases m sv
  rcases q1 with ⟨a1, rfl⟩ | ⟨a1, rfl⟩
  · rcases q2 with ⟨a2, rfl⟩ | ⟨⟨a2, a3⟩, rfl⟩ | ⟨a2, rfl⟩
    · exact bindsF_x0 b mac s m _ now w h h0 h1 a1 a2 HM
    · exact bindsF_x1 b mac s m _ now w h h0 h1 a1 a2 a3 HM
    · exact bindsF_x2 b mac s m _ now w h h0 h1 a1 a2 HM
  · rcases q2 with ⟨a2, rfl⟩ | ⟨⟨a2, a3⟩, rfl⟩ | ⟨a2, rfl⟩
    · exact bindsF_m0 b mac s m _ now w h h0 h1 a1 a2 HM
    · exact bindsF_m1 b mac s m _ now w h h0 h1 a1 a2 a3 HM
    · exact bindsF_m2 b mac s m _ now w h h0 h1 a1 a2 HM
end Go.Proofs.Ytgdlghieifadhaa
