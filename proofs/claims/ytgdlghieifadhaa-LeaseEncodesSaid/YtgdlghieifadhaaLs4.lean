/-
  A lease's client: it is given a lease.
-/
import Derived.Test.YtgdlghieifadhaaLs3
set_option linter.unusedVariables false
namespace Go.Proofs.Ytgdlghieifadhaa
open Go.RowKit

theorem Blk.eq_ {w : World} {g : Nat} {t : TypeId} {cs cs' : Array Value} (h : Blk w g t cs) (e : cs = cs') : Blk w g t cs' := e ▸ h
theorem bindL_time (m : Ls) (sv : Int) : 1 ≤ (bindL m sv).time ∧ (bindL m sv).time ≤ 2147483647 := by
  unfold bindL; simp only; split <;> omega
theorem bindL_cases (m : Ls) (sv : Int) : ∃ x y : Int, (m.server = 0 ∧ x = sv ∨ m.server ≠ 0 ∧ x = m.server) ∧ (m.time < 1 ∧ y = 3600 ∨ (1 ≤ m.time ∧ m.time ≤ 2147483647) ∧ y = m.time ∨ 2147483647 < m.time ∧ y = 2147483647) ∧
    Hid (bindL m sv = ⟨m.op, m.id, m.yours, m.cl, m.ty, x, m.asked, y, m.mask, m.router, m.resolver⟩) := by
  refine ⟨(bindL m sv).server, (bindL m sv).time, ?_, ?_, rfl⟩
  · unfold bindL; simp only; split <;> simp [*]
  · unfold bindL; simp only; split <;> omega
-- BINDS
set_option maxHeartbeats 3200000 in
theorem bindsC_x0 (b : Nat) (mac : M6) (s : St) (m : Ls) (x now : Int) (w : World) (h : IsC w b mac s) (hs : s.ok) (h0 : 0 ≤ now) (h1 : now ≤ 1152921504606846976) (a1 : m.server = 0) (a2 : m.time < 1)
    (HM : Hid (bindL m x = ⟨m.op, m.id, m.yours, m.cl, m.ty, x, m.asked, 3600, m.mask, m.router, m.resolver⟩)) :
    Calls Try.prog 35 #[.pointer (some ⟨b, 0, none⟩), .agg m.cs.toArray, .int .u32 x, .int .i64 now] w fun e w' => e = .returned (.tuple #[]) ∧ IsC w' b mac (bindS s m x now) ∧ w.grownBy w' (some b) := by
  have hT := bindL_time m x
  have b1 : ((m.server : Int) == 0) = true := by rw [beq_iff_eq]; exact a1
  clear a1
  simp only [Ls.cs]
  have hneq : b ≠ w.heap.size := by have := Blk.lt h; omega
  go_enter Try.func35, Try.ntmps35
  go_wp2_with fail
  have M0 := Blk.new w 27 #[.int .i64 m.op, .int .u32 m.id, .int .u32 m.yours, .int .u8 m.cl.a, .int .u8 m.cl.b, .int .u8 m.cl.c, .int .u8 m.cl.d, .int .u8 m.cl.e, .int .u8 m.cl.f, .int .i64 m.ty, .int .u32 x, .int .u32 m.asked, .int .i64 3600, .int .u32 m.mask, .int .u32 m.router, .int .u32 m.resolver]
  have hb := h.nx (al (rf w) (.cells #[.int .i64 m.op, .int .u32 m.id, .int .u32 m.yours, .int .u8 m.cl.a, .int .u8 m.cl.b, .int .u8 m.cl.c, .int .u8 m.cl.d, .int .u8 m.cl.e, .int .u8 m.cl.f, .int .i64 m.ty, .int .u32 x, .int .u32 m.asked, .int .i64 3600, .int .u32 m.mask, .int .u32 m.router, .int .u32 m.resolver] 27))
  have g0 : w.grownBy (w.alloc (.cells #[.int .i64 m.op, .int .u32 m.id, .int .u32 m.yours, .int .u8 m.cl.a, .int .u8 m.cl.b, .int .u8 m.cl.c, .int .u8 m.cl.d, .int .u8 m.cl.e, .int .u8 m.cl.f, .int .i64 m.ty, .int .u32 x, .int .u32 m.asked, .int .i64 3600, .int .u32 m.mask, .int .u32 m.router, .int .u32 m.resolver] 27)) (some b) := only_alloc (World.grownBy.refl _ _) _
  have hz : (w.alloc (.cells #[.int .i64 m.op, .int .u32 m.id, .int .u32 m.yours, .int .u8 m.cl.a, .int .u8 m.cl.b, .int .u8 m.cl.c, .int .u8 m.cl.d, .int .u8 m.cl.e, .int .u8 m.cl.f, .int .i64 m.ty, .int .u32 x, .int .u32 m.asked, .int .i64 3600, .int .u32 m.mask, .int .u32 m.router, .int .u32 m.resolver] 27)).heap.size = w.heap.size + 1 := by simp
  generalize w.alloc (.cells #[.int .i64 m.op, .int .u32 m.id, .int .u32 m.yours, .int .u8 m.cl.a, .int .u8 m.cl.b, .int .u8 m.cl.c, .int .u8 m.cl.d, .int .u8 m.cl.e, .int .u8 m.cl.f, .int .i64 m.ty, .int .u32 x, .int .u32 m.asked, .int .i64 3600, .int .u32 m.mask, .int .u32 m.router, .int .u32 m.resolver] 27) = W at M0 hb g0 hz ⊢
  have HZ := Lib.hid hz; clear hz
  have HN := Lib.hid hneq; clear hneq
  have hn1 := HN.out
  have hn2 := HN.out.symm
  have d0 : W.cell? ⟨w.heap.size, 0, none⟩ = some (.int .i64 m.op) := M0.cell 0
  have d1 : W.cell? ⟨w.heap.size, 1, none⟩ = some (.int .u32 m.id) := M0.cell 1
  have d2 : W.cell? ⟨w.heap.size, 2, none⟩ = some (.int .u32 m.yours) := M0.cell 2
  have d3 : W.cell? ⟨w.heap.size, 3, none⟩ = some (.int .u8 m.cl.a) := M0.cell 3
  have d4 : W.cell? ⟨w.heap.size, 4, none⟩ = some (.int .u8 m.cl.b) := M0.cell 4
  have d5 : W.cell? ⟨w.heap.size, 5, none⟩ = some (.int .u8 m.cl.c) := M0.cell 5
  have d6 : W.cell? ⟨w.heap.size, 6, none⟩ = some (.int .u8 m.cl.d) := M0.cell 6
  have d7 : W.cell? ⟨w.heap.size, 7, none⟩ = some (.int .u8 m.cl.e) := M0.cell 7
  have d8 : W.cell? ⟨w.heap.size, 8, none⟩ = some (.int .u8 m.cl.f) := M0.cell 8
  have d9 : W.cell? ⟨w.heap.size, 9, none⟩ = some (.int .i64 m.ty) := M0.cell 9
  have d10 : W.cell? ⟨w.heap.size, 10, none⟩ = some (.int .u32 x) := M0.cell 10
  have d11 : W.cell? ⟨w.heap.size, 11, none⟩ = some (.int .u32 m.asked) := M0.cell 11
  have d12 : W.cell? ⟨w.heap.size, 12, none⟩ = some (.int .i64 3600) := M0.cell 12
  have d13 : W.cell? ⟨w.heap.size, 13, none⟩ = some (.int .u32 m.mask) := M0.cell 13
  have d14 : W.cell? ⟨w.heap.size, 14, none⟩ = some (.int .u32 m.router) := M0.cell 14
  have d15 : W.cell? ⟨w.heap.size, 15, none⟩ = some (.int .u32 m.resolver) := M0.cell 15
  have c26 : W.cell? ⟨b, 26, none⟩ = some (.int .i64 s.lease.op) := hb.cell 26
  have f26 := Blk.frozen hb 26
  have c27 : W.cell? ⟨b, 27, none⟩ = some (.int .u32 s.lease.id) := hb.cell 27
  have f27 := Blk.frozen hb 27
  have c28 : W.cell? ⟨b, 28, none⟩ = some (.int .u32 s.lease.yours) := hb.cell 28
  have f28 := Blk.frozen hb 28
  have c29 : W.cell? ⟨b, 29, none⟩ = some (.int .u8 s.lease.cl.a) := hb.cell 29
  have f29 := Blk.frozen hb 29
  have c30 : W.cell? ⟨b, 30, none⟩ = some (.int .u8 s.lease.cl.b) := hb.cell 30
  have f30 := Blk.frozen hb 30
  have c31 : W.cell? ⟨b, 31, none⟩ = some (.int .u8 s.lease.cl.c) := hb.cell 31
  have f31 := Blk.frozen hb 31
  have c32 : W.cell? ⟨b, 32, none⟩ = some (.int .u8 s.lease.cl.d) := hb.cell 32
  have f32 := Blk.frozen hb 32
  have c33 : W.cell? ⟨b, 33, none⟩ = some (.int .u8 s.lease.cl.e) := hb.cell 33
  have f33 := Blk.frozen hb 33
  have c34 : W.cell? ⟨b, 34, none⟩ = some (.int .u8 s.lease.cl.f) := hb.cell 34
  have f34 := Blk.frozen hb 34
  have c35 : W.cell? ⟨b, 35, none⟩ = some (.int .i64 s.lease.ty) := hb.cell 35
  have f35 := Blk.frozen hb 35
  have c36 : W.cell? ⟨b, 36, none⟩ = some (.int .u32 s.lease.server) := hb.cell 36
  have f36 := Blk.frozen hb 36
  have c37 : W.cell? ⟨b, 37, none⟩ = some (.int .u32 s.lease.asked) := hb.cell 37
  have f37 := Blk.frozen hb 37
  have c38 : W.cell? ⟨b, 38, none⟩ = some (.int .i64 s.lease.time) := hb.cell 38
  have f38 := Blk.frozen hb 38
  have c39 : W.cell? ⟨b, 39, none⟩ = some (.int .u32 s.lease.mask) := hb.cell 39
  have f39 := Blk.frozen hb 39
  have c40 : W.cell? ⟨b, 40, none⟩ = some (.int .u32 s.lease.router) := hb.cell 40
  have f40 := Blk.frozen hb 40
  have c41 : W.cell? ⟨b, 41, none⟩ = some (.int .u32 s.lease.resolver) := hb.cell 41
  have f41 := Blk.frozen hb 41
  have c6 : W.cell? ⟨b, 6, none⟩ = some (.int .i64 s.st) := hb.cell 6
  have c42 : W.cell? ⟨b, 42, none⟩ = some (.int .i64 s.fr) := hb.cell 42
  have f6 := Blk.frozen hb 6
  have f42 := Blk.frozen hb 42
  go_region_held3 (fun w' => w'.cell? ⟨w.heap.size, 0, none⟩ = some (.int .i64 m.op) ∧ w'.cell? ⟨w.heap.size, 1, none⟩ = some (.int .u32 m.id) ∧ w'.cell? ⟨w.heap.size, 2, none⟩ = some (.int .u32 m.yours) ∧ w'.cell? ⟨w.heap.size, 3, none⟩ = some (.int .u8 m.cl.a) ∧ w'.cell? ⟨w.heap.size, 4, none⟩ = some (.int .u8 m.cl.b) ∧ w'.cell? ⟨w.heap.size, 5, none⟩ = some (.int .u8 m.cl.c) ∧ w'.cell? ⟨w.heap.size, 6, none⟩ = some (.int .u8 m.cl.d) ∧ w'.cell? ⟨w.heap.size, 7, none⟩ = some (.int .u8 m.cl.e) ∧ w'.cell? ⟨w.heap.size, 8, none⟩ = some (.int .u8 m.cl.f) ∧ w'.cell? ⟨w.heap.size, 9, none⟩ = some (.int .i64 m.ty) ∧ w'.cell? ⟨w.heap.size, 10, none⟩ = some (.int .u32 x) ∧ w'.cell? ⟨w.heap.size, 11, none⟩ = some (.int .u32 m.asked) ∧ w'.cell? ⟨w.heap.size, 12, none⟩ = some (.int .i64 3600) ∧ w'.cell? ⟨w.heap.size, 13, none⟩ = some (.int .u32 m.mask) ∧ w'.cell? ⟨w.heap.size, 14, none⟩ = some (.int .u32 m.router) ∧ w'.cell? ⟨w.heap.size, 15, none⟩ = some (.int .u32 m.resolver)) (go_keep) (fail)
  rename_i hHeld
  have H1 : IsC ((((((((((((((((((W.setCell ⟨b, 6, none⟩ (.int .i64 3)).setCell ⟨b, 26, none⟩ (.int .i64 m.op)).setCell ⟨b, 27, none⟩ (.int .u32 m.id)).setCell ⟨b, 28, none⟩ (.int .u32 m.yours)).setCell ⟨b, 29, none⟩ (.int .u8 m.cl.a)).setCell ⟨b, 30, none⟩ (.int .u8 m.cl.b)).setCell ⟨b, 31, none⟩ (.int .u8 m.cl.c)).setCell ⟨b, 32, none⟩ (.int .u8 m.cl.d)).setCell ⟨b, 33, none⟩ (.int .u8 m.cl.e)).setCell ⟨b, 34, none⟩ (.int .u8 m.cl.f)).setCell ⟨b, 35, none⟩ (.int .i64 m.ty)).setCell ⟨b, 36, none⟩ (.int .u32 x)).setCell ⟨b, 37, none⟩ (.int .u32 m.asked)).setCell ⟨b, 38, none⟩ (.int .i64 3600)).setCell ⟨b, 39, none⟩ (.int .u32 m.mask)).setCell ⟨b, 40, none⟩ (.int .u32 m.router)).setCell ⟨b, 41, none⟩ (.int .u32 m.resolver)).setCell ⟨b, 42, none⟩ (.int .i64 now)) b mac { s with st := 3, lease := bindL m x, fr := now } := by
    have H := (((((((((((((((((hb.set_ 6 (.int .i64 3)).set_ 26 (.int .i64 m.op)).set_ 27 (.int .u32 m.id)).set_ 28 (.int .u32 m.yours)).set_ 29 (.int .u8 m.cl.a)).set_ 30 (.int .u8 m.cl.b)).set_ 31 (.int .u8 m.cl.c)).set_ 32 (.int .u8 m.cl.d)).set_ 33 (.int .u8 m.cl.e)).set_ 34 (.int .u8 m.cl.f)).set_ 35 (.int .i64 m.ty)).set_ 36 (.int .u32 x)).set_ 37 (.int .u32 m.asked)).set_ 38 (.int .i64 3600)).set_ 39 (.int .u32 m.mask)).set_ 40 (.int .u32 m.router)).set_ 41 (.int .u32 m.resolver)).set_ 42 (.int .i64 now)
    rw [HM.out]
    exact Blk.eq_ H (by kernel_rfl)
  have G1 : W.grownBy ((((((((((((((((((W.setCell ⟨b, 6, none⟩ (.int .i64 3)).setCell ⟨b, 26, none⟩ (.int .i64 m.op)).setCell ⟨b, 27, none⟩ (.int .u32 m.id)).setCell ⟨b, 28, none⟩ (.int .u32 m.yours)).setCell ⟨b, 29, none⟩ (.int .u8 m.cl.a)).setCell ⟨b, 30, none⟩ (.int .u8 m.cl.b)).setCell ⟨b, 31, none⟩ (.int .u8 m.cl.c)).setCell ⟨b, 32, none⟩ (.int .u8 m.cl.d)).setCell ⟨b, 33, none⟩ (.int .u8 m.cl.e)).setCell ⟨b, 34, none⟩ (.int .u8 m.cl.f)).setCell ⟨b, 35, none⟩ (.int .i64 m.ty)).setCell ⟨b, 36, none⟩ (.int .u32 x)).setCell ⟨b, 37, none⟩ (.int .u32 m.asked)).setCell ⟨b, 38, none⟩ (.int .i64 3600)).setCell ⟨b, 39, none⟩ (.int .u32 m.mask)).setCell ⟨b, 40, none⟩ (.int .u32 m.router)).setCell ⟨b, 41, none⟩ (.int .u32 m.resolver)).setCell ⟨b, 42, none⟩ (.int .i64 now)) (some b) := only_setCell (p := ⟨b, 42, none⟩) (only_setCell (p := ⟨b, 41, none⟩) (only_setCell (p := ⟨b, 40, none⟩) (only_setCell (p := ⟨b, 39, none⟩) (only_setCell (p := ⟨b, 38, none⟩) (only_setCell (p := ⟨b, 37, none⟩) (only_setCell (p := ⟨b, 36, none⟩) (only_setCell (p := ⟨b, 35, none⟩) (only_setCell (p := ⟨b, 34, none⟩) (only_setCell (p := ⟨b, 33, none⟩) (only_setCell (p := ⟨b, 32, none⟩) (only_setCell (p := ⟨b, 31, none⟩) (only_setCell (p := ⟨b, 30, none⟩) (only_setCell (p := ⟨b, 29, none⟩) (only_setCell (p := ⟨b, 28, none⟩) (only_setCell (p := ⟨b, 27, none⟩) (only_setCell (p := ⟨b, 26, none⟩) (only_setCell (p := ⟨b, 6, none⟩) (World.grownBy.refl _ _) (.inl rfl) _) (.inl rfl) _) (.inl rfl) _) (.inl rfl) _) (.inl rfl) _) (.inl rfl) _) (.inl rfl) _) (.inl rfl) _) (.inl rfl) _) (.inl rfl) _) (.inl rfl) _) (.inl rfl) _) (.inl rfl) _) (.inl rfl) _) (.inl rfl) _) (.inl rfl) _) (.inl rfl) _) (.inl rfl) _
  have G0 := Lib.hid g0
  have HT := Lib.hid hT
  clear hb g0 M0 c42 f42 f6 c6 hT d0 d1 d2 d3 d4 d5 d6 d7 d8 d9 d10 d11 d12 d13 d14 d15 c26 f26 c27 f27 c28 f28 c29 f29 c30 f30 c31 f31 c32 f32 c33 f33 c34 f34 c35 f35 c36 f36 c37 f37 c38 f38 c39 f39 c40 f40 c41 f41
  have ok1 : St.ok { s with st := 3, lease := bindL m x, fr := now } := ⟨by simp, by simp, by have := HT.out.1; simp; omega, HT.out.2, h0, h1, hs.n0, hs.n1⟩
  have H1' := Lib.hid H1; clear H1
  have G1' := Lib.hid G1; clear G1
  go_wp2_with fail
  refine (timeC b mac _ _ (Blk.drew H1'.out) ok1).mono ?_
  rintro e w2 ⟨rfl, hw2⟩
  have H2 : IsC w2 b mac { s with st := 3, lease := bindL m x, fr := now } := by rw [hw2]; exact Blk.drew H1'.out
  have G2 : W.grownBy w2 (some b) := by rw [hw2]; exact only_drew G1'.out
  clear hw2 H1' G1' hHeld
  have c8 : w2.cell? ⟨b, 8, none⟩ = some (.int .i64 s.next) := H2.cell 8
  have f8 := Blk.frozen H2 8
  generalize hbt : (bindL m x).time = bt at *
  have HBT := Lib.hid hbt; clear hbt
  have t0 : 0 ≤ bt := by have := HT.out.1; omega
  have t1 : bt ≤ 2147483647 := HT.out.2
  go_wp2_with fail
  refine (plus now (10 * bt / 2) _ h0 (by omega) (by omega) (by omega)).mono ?_
  rintro e w3 ⟨rfl, rfl⟩
  have H3 := H2.set 8 (.int .i64 (now + 10 * bt / 2)) { s with st := 3, lease := bindL m x, fr := now, next := now + 10 * bt / 2 } rfl
  have H3' := Lib.hid H3; clear H3
  go_wp2
  go_end0
  refine ⟨rfl, ?_, only_trans G0.out (only_setCell (p := ⟨b, 8, none⟩) G2 (.inl rfl) _)⟩
  unfold bindS
  rw [HBT.out]
  exact H3'.out
set_option maxHeartbeats 3200000 in
theorem bindsC_x1 (b : Nat) (mac : M6) (s : St) (m : Ls) (x now : Int) (w : World) (h : IsC w b mac s) (hs : s.ok) (h0 : 0 ≤ now) (h1 : now ≤ 1152921504606846976) (a1 : m.server = 0) (a2 : 1 ≤ m.time) (a3 : m.time ≤ 2147483647)
    (HM : Hid (bindL m x = ⟨m.op, m.id, m.yours, m.cl, m.ty, x, m.asked, m.time, m.mask, m.router, m.resolver⟩)) :
    Calls Try.prog 35 #[.pointer (some ⟨b, 0, none⟩), .agg m.cs.toArray, .int .u32 x, .int .i64 now] w fun e w' => e = .returned (.tuple #[]) ∧ IsC w' b mac (bindS s m x now) ∧ w.grownBy w' (some b) := by
  have hT := bindL_time m x
  have b1 : ((m.server : Int) == 0) = true := by rw [beq_iff_eq]; exact a1
  clear a1
  simp only [Ls.cs]
  have hneq : b ≠ w.heap.size := by have := Blk.lt h; omega
  go_enter Try.func35, Try.ntmps35
  go_wp2_with fail
  have M0 := Blk.new w 27 #[.int .i64 m.op, .int .u32 m.id, .int .u32 m.yours, .int .u8 m.cl.a, .int .u8 m.cl.b, .int .u8 m.cl.c, .int .u8 m.cl.d, .int .u8 m.cl.e, .int .u8 m.cl.f, .int .i64 m.ty, .int .u32 x, .int .u32 m.asked, .int .i64 m.time, .int .u32 m.mask, .int .u32 m.router, .int .u32 m.resolver]
  have hb := h.nx (al (rf w) (.cells #[.int .i64 m.op, .int .u32 m.id, .int .u32 m.yours, .int .u8 m.cl.a, .int .u8 m.cl.b, .int .u8 m.cl.c, .int .u8 m.cl.d, .int .u8 m.cl.e, .int .u8 m.cl.f, .int .i64 m.ty, .int .u32 x, .int .u32 m.asked, .int .i64 m.time, .int .u32 m.mask, .int .u32 m.router, .int .u32 m.resolver] 27))
  have g0 : w.grownBy (w.alloc (.cells #[.int .i64 m.op, .int .u32 m.id, .int .u32 m.yours, .int .u8 m.cl.a, .int .u8 m.cl.b, .int .u8 m.cl.c, .int .u8 m.cl.d, .int .u8 m.cl.e, .int .u8 m.cl.f, .int .i64 m.ty, .int .u32 x, .int .u32 m.asked, .int .i64 m.time, .int .u32 m.mask, .int .u32 m.router, .int .u32 m.resolver] 27)) (some b) := only_alloc (World.grownBy.refl _ _) _
  have hz : (w.alloc (.cells #[.int .i64 m.op, .int .u32 m.id, .int .u32 m.yours, .int .u8 m.cl.a, .int .u8 m.cl.b, .int .u8 m.cl.c, .int .u8 m.cl.d, .int .u8 m.cl.e, .int .u8 m.cl.f, .int .i64 m.ty, .int .u32 x, .int .u32 m.asked, .int .i64 m.time, .int .u32 m.mask, .int .u32 m.router, .int .u32 m.resolver] 27)).heap.size = w.heap.size + 1 := by simp
  generalize w.alloc (.cells #[.int .i64 m.op, .int .u32 m.id, .int .u32 m.yours, .int .u8 m.cl.a, .int .u8 m.cl.b, .int .u8 m.cl.c, .int .u8 m.cl.d, .int .u8 m.cl.e, .int .u8 m.cl.f, .int .i64 m.ty, .int .u32 x, .int .u32 m.asked, .int .i64 m.time, .int .u32 m.mask, .int .u32 m.router, .int .u32 m.resolver] 27) = W at M0 hb g0 hz ⊢
  have HZ := Lib.hid hz; clear hz
  have HN := Lib.hid hneq; clear hneq
  have hn1 := HN.out
  have hn2 := HN.out.symm
  have d0 : W.cell? ⟨w.heap.size, 0, none⟩ = some (.int .i64 m.op) := M0.cell 0
  have d1 : W.cell? ⟨w.heap.size, 1, none⟩ = some (.int .u32 m.id) := M0.cell 1
  have d2 : W.cell? ⟨w.heap.size, 2, none⟩ = some (.int .u32 m.yours) := M0.cell 2
  have d3 : W.cell? ⟨w.heap.size, 3, none⟩ = some (.int .u8 m.cl.a) := M0.cell 3
  have d4 : W.cell? ⟨w.heap.size, 4, none⟩ = some (.int .u8 m.cl.b) := M0.cell 4
  have d5 : W.cell? ⟨w.heap.size, 5, none⟩ = some (.int .u8 m.cl.c) := M0.cell 5
  have d6 : W.cell? ⟨w.heap.size, 6, none⟩ = some (.int .u8 m.cl.d) := M0.cell 6
  have d7 : W.cell? ⟨w.heap.size, 7, none⟩ = some (.int .u8 m.cl.e) := M0.cell 7
  have d8 : W.cell? ⟨w.heap.size, 8, none⟩ = some (.int .u8 m.cl.f) := M0.cell 8
  have d9 : W.cell? ⟨w.heap.size, 9, none⟩ = some (.int .i64 m.ty) := M0.cell 9
  have d10 : W.cell? ⟨w.heap.size, 10, none⟩ = some (.int .u32 x) := M0.cell 10
  have d11 : W.cell? ⟨w.heap.size, 11, none⟩ = some (.int .u32 m.asked) := M0.cell 11
  have d12 : W.cell? ⟨w.heap.size, 12, none⟩ = some (.int .i64 m.time) := M0.cell 12
  have d13 : W.cell? ⟨w.heap.size, 13, none⟩ = some (.int .u32 m.mask) := M0.cell 13
  have d14 : W.cell? ⟨w.heap.size, 14, none⟩ = some (.int .u32 m.router) := M0.cell 14
  have d15 : W.cell? ⟨w.heap.size, 15, none⟩ = some (.int .u32 m.resolver) := M0.cell 15
  have c26 : W.cell? ⟨b, 26, none⟩ = some (.int .i64 s.lease.op) := hb.cell 26
  have f26 := Blk.frozen hb 26
  have c27 : W.cell? ⟨b, 27, none⟩ = some (.int .u32 s.lease.id) := hb.cell 27
  have f27 := Blk.frozen hb 27
  have c28 : W.cell? ⟨b, 28, none⟩ = some (.int .u32 s.lease.yours) := hb.cell 28
  have f28 := Blk.frozen hb 28
  have c29 : W.cell? ⟨b, 29, none⟩ = some (.int .u8 s.lease.cl.a) := hb.cell 29
  have f29 := Blk.frozen hb 29
  have c30 : W.cell? ⟨b, 30, none⟩ = some (.int .u8 s.lease.cl.b) := hb.cell 30
  have f30 := Blk.frozen hb 30
  have c31 : W.cell? ⟨b, 31, none⟩ = some (.int .u8 s.lease.cl.c) := hb.cell 31
  have f31 := Blk.frozen hb 31
  have c32 : W.cell? ⟨b, 32, none⟩ = some (.int .u8 s.lease.cl.d) := hb.cell 32
  have f32 := Blk.frozen hb 32
  have c33 : W.cell? ⟨b, 33, none⟩ = some (.int .u8 s.lease.cl.e) := hb.cell 33
  have f33 := Blk.frozen hb 33
  have c34 : W.cell? ⟨b, 34, none⟩ = some (.int .u8 s.lease.cl.f) := hb.cell 34
  have f34 := Blk.frozen hb 34
  have c35 : W.cell? ⟨b, 35, none⟩ = some (.int .i64 s.lease.ty) := hb.cell 35
  have f35 := Blk.frozen hb 35
  have c36 : W.cell? ⟨b, 36, none⟩ = some (.int .u32 s.lease.server) := hb.cell 36
  have f36 := Blk.frozen hb 36
  have c37 : W.cell? ⟨b, 37, none⟩ = some (.int .u32 s.lease.asked) := hb.cell 37
  have f37 := Blk.frozen hb 37
  have c38 : W.cell? ⟨b, 38, none⟩ = some (.int .i64 s.lease.time) := hb.cell 38
  have f38 := Blk.frozen hb 38
  have c39 : W.cell? ⟨b, 39, none⟩ = some (.int .u32 s.lease.mask) := hb.cell 39
  have f39 := Blk.frozen hb 39
  have c40 : W.cell? ⟨b, 40, none⟩ = some (.int .u32 s.lease.router) := hb.cell 40
  have f40 := Blk.frozen hb 40
  have c41 : W.cell? ⟨b, 41, none⟩ = some (.int .u32 s.lease.resolver) := hb.cell 41
  have f41 := Blk.frozen hb 41
  have c6 : W.cell? ⟨b, 6, none⟩ = some (.int .i64 s.st) := hb.cell 6
  have c42 : W.cell? ⟨b, 42, none⟩ = some (.int .i64 s.fr) := hb.cell 42
  have f6 := Blk.frozen hb 6
  have f42 := Blk.frozen hb 42
  go_region_held3 (fun w' => w'.cell? ⟨w.heap.size, 0, none⟩ = some (.int .i64 m.op) ∧ w'.cell? ⟨w.heap.size, 1, none⟩ = some (.int .u32 m.id) ∧ w'.cell? ⟨w.heap.size, 2, none⟩ = some (.int .u32 m.yours) ∧ w'.cell? ⟨w.heap.size, 3, none⟩ = some (.int .u8 m.cl.a) ∧ w'.cell? ⟨w.heap.size, 4, none⟩ = some (.int .u8 m.cl.b) ∧ w'.cell? ⟨w.heap.size, 5, none⟩ = some (.int .u8 m.cl.c) ∧ w'.cell? ⟨w.heap.size, 6, none⟩ = some (.int .u8 m.cl.d) ∧ w'.cell? ⟨w.heap.size, 7, none⟩ = some (.int .u8 m.cl.e) ∧ w'.cell? ⟨w.heap.size, 8, none⟩ = some (.int .u8 m.cl.f) ∧ w'.cell? ⟨w.heap.size, 9, none⟩ = some (.int .i64 m.ty) ∧ w'.cell? ⟨w.heap.size, 10, none⟩ = some (.int .u32 x) ∧ w'.cell? ⟨w.heap.size, 11, none⟩ = some (.int .u32 m.asked) ∧ w'.cell? ⟨w.heap.size, 12, none⟩ = some (.int .i64 m.time) ∧ w'.cell? ⟨w.heap.size, 13, none⟩ = some (.int .u32 m.mask) ∧ w'.cell? ⟨w.heap.size, 14, none⟩ = some (.int .u32 m.router) ∧ w'.cell? ⟨w.heap.size, 15, none⟩ = some (.int .u32 m.resolver)) (go_keep) (fail)
  rename_i hHeld
  have H1 : IsC ((((((((((((((((((W.setCell ⟨b, 6, none⟩ (.int .i64 3)).setCell ⟨b, 26, none⟩ (.int .i64 m.op)).setCell ⟨b, 27, none⟩ (.int .u32 m.id)).setCell ⟨b, 28, none⟩ (.int .u32 m.yours)).setCell ⟨b, 29, none⟩ (.int .u8 m.cl.a)).setCell ⟨b, 30, none⟩ (.int .u8 m.cl.b)).setCell ⟨b, 31, none⟩ (.int .u8 m.cl.c)).setCell ⟨b, 32, none⟩ (.int .u8 m.cl.d)).setCell ⟨b, 33, none⟩ (.int .u8 m.cl.e)).setCell ⟨b, 34, none⟩ (.int .u8 m.cl.f)).setCell ⟨b, 35, none⟩ (.int .i64 m.ty)).setCell ⟨b, 36, none⟩ (.int .u32 x)).setCell ⟨b, 37, none⟩ (.int .u32 m.asked)).setCell ⟨b, 38, none⟩ (.int .i64 m.time)).setCell ⟨b, 39, none⟩ (.int .u32 m.mask)).setCell ⟨b, 40, none⟩ (.int .u32 m.router)).setCell ⟨b, 41, none⟩ (.int .u32 m.resolver)).setCell ⟨b, 42, none⟩ (.int .i64 now)) b mac { s with st := 3, lease := bindL m x, fr := now } := by
    have H := (((((((((((((((((hb.set_ 6 (.int .i64 3)).set_ 26 (.int .i64 m.op)).set_ 27 (.int .u32 m.id)).set_ 28 (.int .u32 m.yours)).set_ 29 (.int .u8 m.cl.a)).set_ 30 (.int .u8 m.cl.b)).set_ 31 (.int .u8 m.cl.c)).set_ 32 (.int .u8 m.cl.d)).set_ 33 (.int .u8 m.cl.e)).set_ 34 (.int .u8 m.cl.f)).set_ 35 (.int .i64 m.ty)).set_ 36 (.int .u32 x)).set_ 37 (.int .u32 m.asked)).set_ 38 (.int .i64 m.time)).set_ 39 (.int .u32 m.mask)).set_ 40 (.int .u32 m.router)).set_ 41 (.int .u32 m.resolver)).set_ 42 (.int .i64 now)
    rw [HM.out]
    exact Blk.eq_ H (by kernel_rfl)
  have G1 : W.grownBy ((((((((((((((((((W.setCell ⟨b, 6, none⟩ (.int .i64 3)).setCell ⟨b, 26, none⟩ (.int .i64 m.op)).setCell ⟨b, 27, none⟩ (.int .u32 m.id)).setCell ⟨b, 28, none⟩ (.int .u32 m.yours)).setCell ⟨b, 29, none⟩ (.int .u8 m.cl.a)).setCell ⟨b, 30, none⟩ (.int .u8 m.cl.b)).setCell ⟨b, 31, none⟩ (.int .u8 m.cl.c)).setCell ⟨b, 32, none⟩ (.int .u8 m.cl.d)).setCell ⟨b, 33, none⟩ (.int .u8 m.cl.e)).setCell ⟨b, 34, none⟩ (.int .u8 m.cl.f)).setCell ⟨b, 35, none⟩ (.int .i64 m.ty)).setCell ⟨b, 36, none⟩ (.int .u32 x)).setCell ⟨b, 37, none⟩ (.int .u32 m.asked)).setCell ⟨b, 38, none⟩ (.int .i64 m.time)).setCell ⟨b, 39, none⟩ (.int .u32 m.mask)).setCell ⟨b, 40, none⟩ (.int .u32 m.router)).setCell ⟨b, 41, none⟩ (.int .u32 m.resolver)).setCell ⟨b, 42, none⟩ (.int .i64 now)) (some b) := only_setCell (p := ⟨b, 42, none⟩) (only_setCell (p := ⟨b, 41, none⟩) (only_setCell (p := ⟨b, 40, none⟩) (only_setCell (p := ⟨b, 39, none⟩) (only_setCell (p := ⟨b, 38, none⟩) (only_setCell (p := ⟨b, 37, none⟩) (only_setCell (p := ⟨b, 36, none⟩) (only_setCell (p := ⟨b, 35, none⟩) (only_setCell (p := ⟨b, 34, none⟩) (only_setCell (p := ⟨b, 33, none⟩) (only_setCell (p := ⟨b, 32, none⟩) (only_setCell (p := ⟨b, 31, none⟩) (only_setCell (p := ⟨b, 30, none⟩) (only_setCell (p := ⟨b, 29, none⟩) (only_setCell (p := ⟨b, 28, none⟩) (only_setCell (p := ⟨b, 27, none⟩) (only_setCell (p := ⟨b, 26, none⟩) (only_setCell (p := ⟨b, 6, none⟩) (World.grownBy.refl _ _) (.inl rfl) _) (.inl rfl) _) (.inl rfl) _) (.inl rfl) _) (.inl rfl) _) (.inl rfl) _) (.inl rfl) _) (.inl rfl) _) (.inl rfl) _) (.inl rfl) _) (.inl rfl) _) (.inl rfl) _) (.inl rfl) _) (.inl rfl) _) (.inl rfl) _) (.inl rfl) _) (.inl rfl) _) (.inl rfl) _
  have G0 := Lib.hid g0
  have HT := Lib.hid hT
  clear hb g0 M0 c42 f42 f6 c6 hT d0 d1 d2 d3 d4 d5 d6 d7 d8 d9 d10 d11 d12 d13 d14 d15 c26 f26 c27 f27 c28 f28 c29 f29 c30 f30 c31 f31 c32 f32 c33 f33 c34 f34 c35 f35 c36 f36 c37 f37 c38 f38 c39 f39 c40 f40 c41 f41
  have ok1 : St.ok { s with st := 3, lease := bindL m x, fr := now } := ⟨by simp, by simp, by have := HT.out.1; simp; omega, HT.out.2, h0, h1, hs.n0, hs.n1⟩
  have H1' := Lib.hid H1; clear H1
  have G1' := Lib.hid G1; clear G1
  go_wp2_with fail
  refine (timeC b mac _ _ (Blk.drew H1'.out) ok1).mono ?_
  rintro e w2 ⟨rfl, hw2⟩
  have H2 : IsC w2 b mac { s with st := 3, lease := bindL m x, fr := now } := by rw [hw2]; exact Blk.drew H1'.out
  have G2 : W.grownBy w2 (some b) := by rw [hw2]; exact only_drew G1'.out
  clear hw2 H1' G1' hHeld
  have c8 : w2.cell? ⟨b, 8, none⟩ = some (.int .i64 s.next) := H2.cell 8
  have f8 := Blk.frozen H2 8
  generalize hbt : (bindL m x).time = bt at *
  have HBT := Lib.hid hbt; clear hbt
  have t0 : 0 ≤ bt := by have := HT.out.1; omega
  have t1 : bt ≤ 2147483647 := HT.out.2
  go_wp2_with fail
  refine (plus now (10 * bt / 2) _ h0 (by omega) (by omega) (by omega)).mono ?_
  rintro e w3 ⟨rfl, rfl⟩
  have H3 := H2.set 8 (.int .i64 (now + 10 * bt / 2)) { s with st := 3, lease := bindL m x, fr := now, next := now + 10 * bt / 2 } rfl
  have H3' := Lib.hid H3; clear H3
  go_wp2
  go_end0
  refine ⟨rfl, ?_, only_trans G0.out (only_setCell (p := ⟨b, 8, none⟩) G2 (.inl rfl) _)⟩
  unfold bindS
  rw [HBT.out]
  exact H3'.out
set_option maxHeartbeats 3200000 in
theorem bindsC_x2 (b : Nat) (mac : M6) (s : St) (m : Ls) (x now : Int) (w : World) (h : IsC w b mac s) (hs : s.ok) (h0 : 0 ≤ now) (h1 : now ≤ 1152921504606846976) (a1 : m.server = 0) (a2 : 2147483647 < m.time)
    (HM : Hid (bindL m x = ⟨m.op, m.id, m.yours, m.cl, m.ty, x, m.asked, 2147483647, m.mask, m.router, m.resolver⟩)) :
    Calls Try.prog 35 #[.pointer (some ⟨b, 0, none⟩), .agg m.cs.toArray, .int .u32 x, .int .i64 now] w fun e w' => e = .returned (.tuple #[]) ∧ IsC w' b mac (bindS s m x now) ∧ w.grownBy w' (some b) := by
  have hT := bindL_time m x
  have b1 : ((m.server : Int) == 0) = true := by rw [beq_iff_eq]; exact a1
  clear a1
  simp only [Ls.cs]
  have hneq : b ≠ w.heap.size := by have := Blk.lt h; omega
  go_enter Try.func35, Try.ntmps35
  go_wp2_with fail
  have M0 := Blk.new w 27 #[.int .i64 m.op, .int .u32 m.id, .int .u32 m.yours, .int .u8 m.cl.a, .int .u8 m.cl.b, .int .u8 m.cl.c, .int .u8 m.cl.d, .int .u8 m.cl.e, .int .u8 m.cl.f, .int .i64 m.ty, .int .u32 x, .int .u32 m.asked, .int .i64 2147483647, .int .u32 m.mask, .int .u32 m.router, .int .u32 m.resolver]
  have hb := h.nx (al (rf w) (.cells #[.int .i64 m.op, .int .u32 m.id, .int .u32 m.yours, .int .u8 m.cl.a, .int .u8 m.cl.b, .int .u8 m.cl.c, .int .u8 m.cl.d, .int .u8 m.cl.e, .int .u8 m.cl.f, .int .i64 m.ty, .int .u32 x, .int .u32 m.asked, .int .i64 2147483647, .int .u32 m.mask, .int .u32 m.router, .int .u32 m.resolver] 27))
  have g0 : w.grownBy (w.alloc (.cells #[.int .i64 m.op, .int .u32 m.id, .int .u32 m.yours, .int .u8 m.cl.a, .int .u8 m.cl.b, .int .u8 m.cl.c, .int .u8 m.cl.d, .int .u8 m.cl.e, .int .u8 m.cl.f, .int .i64 m.ty, .int .u32 x, .int .u32 m.asked, .int .i64 2147483647, .int .u32 m.mask, .int .u32 m.router, .int .u32 m.resolver] 27)) (some b) := only_alloc (World.grownBy.refl _ _) _
  have hz : (w.alloc (.cells #[.int .i64 m.op, .int .u32 m.id, .int .u32 m.yours, .int .u8 m.cl.a, .int .u8 m.cl.b, .int .u8 m.cl.c, .int .u8 m.cl.d, .int .u8 m.cl.e, .int .u8 m.cl.f, .int .i64 m.ty, .int .u32 x, .int .u32 m.asked, .int .i64 2147483647, .int .u32 m.mask, .int .u32 m.router, .int .u32 m.resolver] 27)).heap.size = w.heap.size + 1 := by simp
  generalize w.alloc (.cells #[.int .i64 m.op, .int .u32 m.id, .int .u32 m.yours, .int .u8 m.cl.a, .int .u8 m.cl.b, .int .u8 m.cl.c, .int .u8 m.cl.d, .int .u8 m.cl.e, .int .u8 m.cl.f, .int .i64 m.ty, .int .u32 x, .int .u32 m.asked, .int .i64 2147483647, .int .u32 m.mask, .int .u32 m.router, .int .u32 m.resolver] 27) = W at M0 hb g0 hz ⊢
  have HZ := Lib.hid hz; clear hz
  have HN := Lib.hid hneq; clear hneq
  have hn1 := HN.out
  have hn2 := HN.out.symm
  have d0 : W.cell? ⟨w.heap.size, 0, none⟩ = some (.int .i64 m.op) := M0.cell 0
  have d1 : W.cell? ⟨w.heap.size, 1, none⟩ = some (.int .u32 m.id) := M0.cell 1
  have d2 : W.cell? ⟨w.heap.size, 2, none⟩ = some (.int .u32 m.yours) := M0.cell 2
  have d3 : W.cell? ⟨w.heap.size, 3, none⟩ = some (.int .u8 m.cl.a) := M0.cell 3
  have d4 : W.cell? ⟨w.heap.size, 4, none⟩ = some (.int .u8 m.cl.b) := M0.cell 4
  have d5 : W.cell? ⟨w.heap.size, 5, none⟩ = some (.int .u8 m.cl.c) := M0.cell 5
  have d6 : W.cell? ⟨w.heap.size, 6, none⟩ = some (.int .u8 m.cl.d) := M0.cell 6
  have d7 : W.cell? ⟨w.heap.size, 7, none⟩ = some (.int .u8 m.cl.e) := M0.cell 7
  have d8 : W.cell? ⟨w.heap.size, 8, none⟩ = some (.int .u8 m.cl.f) := M0.cell 8
  have d9 : W.cell? ⟨w.heap.size, 9, none⟩ = some (.int .i64 m.ty) := M0.cell 9
  have d10 : W.cell? ⟨w.heap.size, 10, none⟩ = some (.int .u32 x) := M0.cell 10
  have d11 : W.cell? ⟨w.heap.size, 11, none⟩ = some (.int .u32 m.asked) := M0.cell 11
  have d12 : W.cell? ⟨w.heap.size, 12, none⟩ = some (.int .i64 2147483647) := M0.cell 12
  have d13 : W.cell? ⟨w.heap.size, 13, none⟩ = some (.int .u32 m.mask) := M0.cell 13
  have d14 : W.cell? ⟨w.heap.size, 14, none⟩ = some (.int .u32 m.router) := M0.cell 14
  have d15 : W.cell? ⟨w.heap.size, 15, none⟩ = some (.int .u32 m.resolver) := M0.cell 15
  have c26 : W.cell? ⟨b, 26, none⟩ = some (.int .i64 s.lease.op) := hb.cell 26
  have f26 := Blk.frozen hb 26
  have c27 : W.cell? ⟨b, 27, none⟩ = some (.int .u32 s.lease.id) := hb.cell 27
  have f27 := Blk.frozen hb 27
  have c28 : W.cell? ⟨b, 28, none⟩ = some (.int .u32 s.lease.yours) := hb.cell 28
  have f28 := Blk.frozen hb 28
  have c29 : W.cell? ⟨b, 29, none⟩ = some (.int .u8 s.lease.cl.a) := hb.cell 29
  have f29 := Blk.frozen hb 29
  have c30 : W.cell? ⟨b, 30, none⟩ = some (.int .u8 s.lease.cl.b) := hb.cell 30
  have f30 := Blk.frozen hb 30
  have c31 : W.cell? ⟨b, 31, none⟩ = some (.int .u8 s.lease.cl.c) := hb.cell 31
  have f31 := Blk.frozen hb 31
  have c32 : W.cell? ⟨b, 32, none⟩ = some (.int .u8 s.lease.cl.d) := hb.cell 32
  have f32 := Blk.frozen hb 32
  have c33 : W.cell? ⟨b, 33, none⟩ = some (.int .u8 s.lease.cl.e) := hb.cell 33
  have f33 := Blk.frozen hb 33
  have c34 : W.cell? ⟨b, 34, none⟩ = some (.int .u8 s.lease.cl.f) := hb.cell 34
  have f34 := Blk.frozen hb 34
  have c35 : W.cell? ⟨b, 35, none⟩ = some (.int .i64 s.lease.ty) := hb.cell 35
  have f35 := Blk.frozen hb 35
  have c36 : W.cell? ⟨b, 36, none⟩ = some (.int .u32 s.lease.server) := hb.cell 36
  have f36 := Blk.frozen hb 36
  have c37 : W.cell? ⟨b, 37, none⟩ = some (.int .u32 s.lease.asked) := hb.cell 37
  have f37 := Blk.frozen hb 37
  have c38 : W.cell? ⟨b, 38, none⟩ = some (.int .i64 s.lease.time) := hb.cell 38
  have f38 := Blk.frozen hb 38
  have c39 : W.cell? ⟨b, 39, none⟩ = some (.int .u32 s.lease.mask) := hb.cell 39
  have f39 := Blk.frozen hb 39
  have c40 : W.cell? ⟨b, 40, none⟩ = some (.int .u32 s.lease.router) := hb.cell 40
  have f40 := Blk.frozen hb 40
  have c41 : W.cell? ⟨b, 41, none⟩ = some (.int .u32 s.lease.resolver) := hb.cell 41
  have f41 := Blk.frozen hb 41
  have c6 : W.cell? ⟨b, 6, none⟩ = some (.int .i64 s.st) := hb.cell 6
  have c42 : W.cell? ⟨b, 42, none⟩ = some (.int .i64 s.fr) := hb.cell 42
  have f6 := Blk.frozen hb 6
  have f42 := Blk.frozen hb 42
  go_region_held3 (fun w' => w'.cell? ⟨w.heap.size, 0, none⟩ = some (.int .i64 m.op) ∧ w'.cell? ⟨w.heap.size, 1, none⟩ = some (.int .u32 m.id) ∧ w'.cell? ⟨w.heap.size, 2, none⟩ = some (.int .u32 m.yours) ∧ w'.cell? ⟨w.heap.size, 3, none⟩ = some (.int .u8 m.cl.a) ∧ w'.cell? ⟨w.heap.size, 4, none⟩ = some (.int .u8 m.cl.b) ∧ w'.cell? ⟨w.heap.size, 5, none⟩ = some (.int .u8 m.cl.c) ∧ w'.cell? ⟨w.heap.size, 6, none⟩ = some (.int .u8 m.cl.d) ∧ w'.cell? ⟨w.heap.size, 7, none⟩ = some (.int .u8 m.cl.e) ∧ w'.cell? ⟨w.heap.size, 8, none⟩ = some (.int .u8 m.cl.f) ∧ w'.cell? ⟨w.heap.size, 9, none⟩ = some (.int .i64 m.ty) ∧ w'.cell? ⟨w.heap.size, 10, none⟩ = some (.int .u32 x) ∧ w'.cell? ⟨w.heap.size, 11, none⟩ = some (.int .u32 m.asked) ∧ w'.cell? ⟨w.heap.size, 12, none⟩ = some (.int .i64 2147483647) ∧ w'.cell? ⟨w.heap.size, 13, none⟩ = some (.int .u32 m.mask) ∧ w'.cell? ⟨w.heap.size, 14, none⟩ = some (.int .u32 m.router) ∧ w'.cell? ⟨w.heap.size, 15, none⟩ = some (.int .u32 m.resolver)) (go_keep) (fail)
  rename_i hHeld
  have H1 : IsC ((((((((((((((((((W.setCell ⟨b, 6, none⟩ (.int .i64 3)).setCell ⟨b, 26, none⟩ (.int .i64 m.op)).setCell ⟨b, 27, none⟩ (.int .u32 m.id)).setCell ⟨b, 28, none⟩ (.int .u32 m.yours)).setCell ⟨b, 29, none⟩ (.int .u8 m.cl.a)).setCell ⟨b, 30, none⟩ (.int .u8 m.cl.b)).setCell ⟨b, 31, none⟩ (.int .u8 m.cl.c)).setCell ⟨b, 32, none⟩ (.int .u8 m.cl.d)).setCell ⟨b, 33, none⟩ (.int .u8 m.cl.e)).setCell ⟨b, 34, none⟩ (.int .u8 m.cl.f)).setCell ⟨b, 35, none⟩ (.int .i64 m.ty)).setCell ⟨b, 36, none⟩ (.int .u32 x)).setCell ⟨b, 37, none⟩ (.int .u32 m.asked)).setCell ⟨b, 38, none⟩ (.int .i64 2147483647)).setCell ⟨b, 39, none⟩ (.int .u32 m.mask)).setCell ⟨b, 40, none⟩ (.int .u32 m.router)).setCell ⟨b, 41, none⟩ (.int .u32 m.resolver)).setCell ⟨b, 42, none⟩ (.int .i64 now)) b mac { s with st := 3, lease := bindL m x, fr := now } := by
    have H := (((((((((((((((((hb.set_ 6 (.int .i64 3)).set_ 26 (.int .i64 m.op)).set_ 27 (.int .u32 m.id)).set_ 28 (.int .u32 m.yours)).set_ 29 (.int .u8 m.cl.a)).set_ 30 (.int .u8 m.cl.b)).set_ 31 (.int .u8 m.cl.c)).set_ 32 (.int .u8 m.cl.d)).set_ 33 (.int .u8 m.cl.e)).set_ 34 (.int .u8 m.cl.f)).set_ 35 (.int .i64 m.ty)).set_ 36 (.int .u32 x)).set_ 37 (.int .u32 m.asked)).set_ 38 (.int .i64 2147483647)).set_ 39 (.int .u32 m.mask)).set_ 40 (.int .u32 m.router)).set_ 41 (.int .u32 m.resolver)).set_ 42 (.int .i64 now)
    rw [HM.out]
    exact Blk.eq_ H (by kernel_rfl)
  have G1 : W.grownBy ((((((((((((((((((W.setCell ⟨b, 6, none⟩ (.int .i64 3)).setCell ⟨b, 26, none⟩ (.int .i64 m.op)).setCell ⟨b, 27, none⟩ (.int .u32 m.id)).setCell ⟨b, 28, none⟩ (.int .u32 m.yours)).setCell ⟨b, 29, none⟩ (.int .u8 m.cl.a)).setCell ⟨b, 30, none⟩ (.int .u8 m.cl.b)).setCell ⟨b, 31, none⟩ (.int .u8 m.cl.c)).setCell ⟨b, 32, none⟩ (.int .u8 m.cl.d)).setCell ⟨b, 33, none⟩ (.int .u8 m.cl.e)).setCell ⟨b, 34, none⟩ (.int .u8 m.cl.f)).setCell ⟨b, 35, none⟩ (.int .i64 m.ty)).setCell ⟨b, 36, none⟩ (.int .u32 x)).setCell ⟨b, 37, none⟩ (.int .u32 m.asked)).setCell ⟨b, 38, none⟩ (.int .i64 2147483647)).setCell ⟨b, 39, none⟩ (.int .u32 m.mask)).setCell ⟨b, 40, none⟩ (.int .u32 m.router)).setCell ⟨b, 41, none⟩ (.int .u32 m.resolver)).setCell ⟨b, 42, none⟩ (.int .i64 now)) (some b) := only_setCell (p := ⟨b, 42, none⟩) (only_setCell (p := ⟨b, 41, none⟩) (only_setCell (p := ⟨b, 40, none⟩) (only_setCell (p := ⟨b, 39, none⟩) (only_setCell (p := ⟨b, 38, none⟩) (only_setCell (p := ⟨b, 37, none⟩) (only_setCell (p := ⟨b, 36, none⟩) (only_setCell (p := ⟨b, 35, none⟩) (only_setCell (p := ⟨b, 34, none⟩) (only_setCell (p := ⟨b, 33, none⟩) (only_setCell (p := ⟨b, 32, none⟩) (only_setCell (p := ⟨b, 31, none⟩) (only_setCell (p := ⟨b, 30, none⟩) (only_setCell (p := ⟨b, 29, none⟩) (only_setCell (p := ⟨b, 28, none⟩) (only_setCell (p := ⟨b, 27, none⟩) (only_setCell (p := ⟨b, 26, none⟩) (only_setCell (p := ⟨b, 6, none⟩) (World.grownBy.refl _ _) (.inl rfl) _) (.inl rfl) _) (.inl rfl) _) (.inl rfl) _) (.inl rfl) _) (.inl rfl) _) (.inl rfl) _) (.inl rfl) _) (.inl rfl) _) (.inl rfl) _) (.inl rfl) _) (.inl rfl) _) (.inl rfl) _) (.inl rfl) _) (.inl rfl) _) (.inl rfl) _) (.inl rfl) _) (.inl rfl) _
  have G0 := Lib.hid g0
  have HT := Lib.hid hT
  clear hb g0 M0 c42 f42 f6 c6 hT d0 d1 d2 d3 d4 d5 d6 d7 d8 d9 d10 d11 d12 d13 d14 d15 c26 f26 c27 f27 c28 f28 c29 f29 c30 f30 c31 f31 c32 f32 c33 f33 c34 f34 c35 f35 c36 f36 c37 f37 c38 f38 c39 f39 c40 f40 c41 f41
  have ok1 : St.ok { s with st := 3, lease := bindL m x, fr := now } := ⟨by simp, by simp, by have := HT.out.1; simp; omega, HT.out.2, h0, h1, hs.n0, hs.n1⟩
  have H1' := Lib.hid H1; clear H1
  have G1' := Lib.hid G1; clear G1
  go_wp2_with fail
  refine (timeC b mac _ _ (Blk.drew H1'.out) ok1).mono ?_
  rintro e w2 ⟨rfl, hw2⟩
  have H2 : IsC w2 b mac { s with st := 3, lease := bindL m x, fr := now } := by rw [hw2]; exact Blk.drew H1'.out
  have G2 : W.grownBy w2 (some b) := by rw [hw2]; exact only_drew G1'.out
  clear hw2 H1' G1' hHeld
  have c8 : w2.cell? ⟨b, 8, none⟩ = some (.int .i64 s.next) := H2.cell 8
  have f8 := Blk.frozen H2 8
  generalize hbt : (bindL m x).time = bt at *
  have HBT := Lib.hid hbt; clear hbt
  have t0 : 0 ≤ bt := by have := HT.out.1; omega
  have t1 : bt ≤ 2147483647 := HT.out.2
  go_wp2_with fail
  refine (plus now (10 * bt / 2) _ h0 (by omega) (by omega) (by omega)).mono ?_
  rintro e w3 ⟨rfl, rfl⟩
  have H3 := H2.set 8 (.int .i64 (now + 10 * bt / 2)) { s with st := 3, lease := bindL m x, fr := now, next := now + 10 * bt / 2 } rfl
  have H3' := Lib.hid H3; clear H3
  go_wp2
  go_end0
  refine ⟨rfl, ?_, only_trans G0.out (only_setCell (p := ⟨b, 8, none⟩) G2 (.inl rfl) _)⟩
  unfold bindS
  rw [HBT.out]
  exact H3'.out
set_option maxHeartbeats 3200000 in
theorem bindsC_m0 (b : Nat) (mac : M6) (s : St) (m : Ls) (sv now : Int) (w : World) (h : IsC w b mac s) (hs : s.ok) (h0 : 0 ≤ now) (h1 : now ≤ 1152921504606846976) (a1 : m.server ≠ 0) (a2 : m.time < 1)
    (HM : Hid (bindL m sv = ⟨m.op, m.id, m.yours, m.cl, m.ty, m.server, m.asked, 3600, m.mask, m.router, m.resolver⟩)) :
    Calls Try.prog 35 #[.pointer (some ⟨b, 0, none⟩), .agg m.cs.toArray, .int .u32 sv, .int .i64 now] w fun e w' => e = .returned (.tuple #[]) ∧ IsC w' b mac (bindS s m sv now) ∧ w.grownBy w' (some b) := by
  have hT := bindL_time m sv
  have b1 : ((m.server : Int) == 0) = false := by rw [beq_eq_false_iff_ne]; exact a1
  clear a1
  simp only [Ls.cs]
  have hneq : b ≠ w.heap.size := by have := Blk.lt h; omega
  go_enter Try.func35, Try.ntmps35
  go_wp2_with fail
  have M0 := Blk.new w 27 #[.int .i64 m.op, .int .u32 m.id, .int .u32 m.yours, .int .u8 m.cl.a, .int .u8 m.cl.b, .int .u8 m.cl.c, .int .u8 m.cl.d, .int .u8 m.cl.e, .int .u8 m.cl.f, .int .i64 m.ty, .int .u32 m.server, .int .u32 m.asked, .int .i64 3600, .int .u32 m.mask, .int .u32 m.router, .int .u32 m.resolver]
  have hb := h.nx (al (rf w) (.cells #[.int .i64 m.op, .int .u32 m.id, .int .u32 m.yours, .int .u8 m.cl.a, .int .u8 m.cl.b, .int .u8 m.cl.c, .int .u8 m.cl.d, .int .u8 m.cl.e, .int .u8 m.cl.f, .int .i64 m.ty, .int .u32 m.server, .int .u32 m.asked, .int .i64 3600, .int .u32 m.mask, .int .u32 m.router, .int .u32 m.resolver] 27))
  have g0 : w.grownBy (w.alloc (.cells #[.int .i64 m.op, .int .u32 m.id, .int .u32 m.yours, .int .u8 m.cl.a, .int .u8 m.cl.b, .int .u8 m.cl.c, .int .u8 m.cl.d, .int .u8 m.cl.e, .int .u8 m.cl.f, .int .i64 m.ty, .int .u32 m.server, .int .u32 m.asked, .int .i64 3600, .int .u32 m.mask, .int .u32 m.router, .int .u32 m.resolver] 27)) (some b) := only_alloc (World.grownBy.refl _ _) _
  have hz : (w.alloc (.cells #[.int .i64 m.op, .int .u32 m.id, .int .u32 m.yours, .int .u8 m.cl.a, .int .u8 m.cl.b, .int .u8 m.cl.c, .int .u8 m.cl.d, .int .u8 m.cl.e, .int .u8 m.cl.f, .int .i64 m.ty, .int .u32 m.server, .int .u32 m.asked, .int .i64 3600, .int .u32 m.mask, .int .u32 m.router, .int .u32 m.resolver] 27)).heap.size = w.heap.size + 1 := by simp
  generalize w.alloc (.cells #[.int .i64 m.op, .int .u32 m.id, .int .u32 m.yours, .int .u8 m.cl.a, .int .u8 m.cl.b, .int .u8 m.cl.c, .int .u8 m.cl.d, .int .u8 m.cl.e, .int .u8 m.cl.f, .int .i64 m.ty, .int .u32 m.server, .int .u32 m.asked, .int .i64 3600, .int .u32 m.mask, .int .u32 m.router, .int .u32 m.resolver] 27) = W at M0 hb g0 hz ⊢
  have HZ := Lib.hid hz; clear hz
  have HN := Lib.hid hneq; clear hneq
  have hn1 := HN.out
  have hn2 := HN.out.symm
  have d0 : W.cell? ⟨w.heap.size, 0, none⟩ = some (.int .i64 m.op) := M0.cell 0
  have d1 : W.cell? ⟨w.heap.size, 1, none⟩ = some (.int .u32 m.id) := M0.cell 1
  have d2 : W.cell? ⟨w.heap.size, 2, none⟩ = some (.int .u32 m.yours) := M0.cell 2
  have d3 : W.cell? ⟨w.heap.size, 3, none⟩ = some (.int .u8 m.cl.a) := M0.cell 3
  have d4 : W.cell? ⟨w.heap.size, 4, none⟩ = some (.int .u8 m.cl.b) := M0.cell 4
  have d5 : W.cell? ⟨w.heap.size, 5, none⟩ = some (.int .u8 m.cl.c) := M0.cell 5
  have d6 : W.cell? ⟨w.heap.size, 6, none⟩ = some (.int .u8 m.cl.d) := M0.cell 6
  have d7 : W.cell? ⟨w.heap.size, 7, none⟩ = some (.int .u8 m.cl.e) := M0.cell 7
  have d8 : W.cell? ⟨w.heap.size, 8, none⟩ = some (.int .u8 m.cl.f) := M0.cell 8
  have d9 : W.cell? ⟨w.heap.size, 9, none⟩ = some (.int .i64 m.ty) := M0.cell 9
  have d10 : W.cell? ⟨w.heap.size, 10, none⟩ = some (.int .u32 m.server) := M0.cell 10
  have d11 : W.cell? ⟨w.heap.size, 11, none⟩ = some (.int .u32 m.asked) := M0.cell 11
  have d12 : W.cell? ⟨w.heap.size, 12, none⟩ = some (.int .i64 3600) := M0.cell 12
  have d13 : W.cell? ⟨w.heap.size, 13, none⟩ = some (.int .u32 m.mask) := M0.cell 13
  have d14 : W.cell? ⟨w.heap.size, 14, none⟩ = some (.int .u32 m.router) := M0.cell 14
  have d15 : W.cell? ⟨w.heap.size, 15, none⟩ = some (.int .u32 m.resolver) := M0.cell 15
  have c26 : W.cell? ⟨b, 26, none⟩ = some (.int .i64 s.lease.op) := hb.cell 26
  have f26 := Blk.frozen hb 26
  have c27 : W.cell? ⟨b, 27, none⟩ = some (.int .u32 s.lease.id) := hb.cell 27
  have f27 := Blk.frozen hb 27
  have c28 : W.cell? ⟨b, 28, none⟩ = some (.int .u32 s.lease.yours) := hb.cell 28
  have f28 := Blk.frozen hb 28
  have c29 : W.cell? ⟨b, 29, none⟩ = some (.int .u8 s.lease.cl.a) := hb.cell 29
  have f29 := Blk.frozen hb 29
  have c30 : W.cell? ⟨b, 30, none⟩ = some (.int .u8 s.lease.cl.b) := hb.cell 30
  have f30 := Blk.frozen hb 30
  have c31 : W.cell? ⟨b, 31, none⟩ = some (.int .u8 s.lease.cl.c) := hb.cell 31
  have f31 := Blk.frozen hb 31
  have c32 : W.cell? ⟨b, 32, none⟩ = some (.int .u8 s.lease.cl.d) := hb.cell 32
  have f32 := Blk.frozen hb 32
  have c33 : W.cell? ⟨b, 33, none⟩ = some (.int .u8 s.lease.cl.e) := hb.cell 33
  have f33 := Blk.frozen hb 33
  have c34 : W.cell? ⟨b, 34, none⟩ = some (.int .u8 s.lease.cl.f) := hb.cell 34
  have f34 := Blk.frozen hb 34
  have c35 : W.cell? ⟨b, 35, none⟩ = some (.int .i64 s.lease.ty) := hb.cell 35
  have f35 := Blk.frozen hb 35
  have c36 : W.cell? ⟨b, 36, none⟩ = some (.int .u32 s.lease.server) := hb.cell 36
  have f36 := Blk.frozen hb 36
  have c37 : W.cell? ⟨b, 37, none⟩ = some (.int .u32 s.lease.asked) := hb.cell 37
  have f37 := Blk.frozen hb 37
  have c38 : W.cell? ⟨b, 38, none⟩ = some (.int .i64 s.lease.time) := hb.cell 38
  have f38 := Blk.frozen hb 38
  have c39 : W.cell? ⟨b, 39, none⟩ = some (.int .u32 s.lease.mask) := hb.cell 39
  have f39 := Blk.frozen hb 39
  have c40 : W.cell? ⟨b, 40, none⟩ = some (.int .u32 s.lease.router) := hb.cell 40
  have f40 := Blk.frozen hb 40
  have c41 : W.cell? ⟨b, 41, none⟩ = some (.int .u32 s.lease.resolver) := hb.cell 41
  have f41 := Blk.frozen hb 41
  have c6 : W.cell? ⟨b, 6, none⟩ = some (.int .i64 s.st) := hb.cell 6
  have c42 : W.cell? ⟨b, 42, none⟩ = some (.int .i64 s.fr) := hb.cell 42
  have f6 := Blk.frozen hb 6
  have f42 := Blk.frozen hb 42
  go_region_held3 (fun w' => w'.cell? ⟨w.heap.size, 0, none⟩ = some (.int .i64 m.op) ∧ w'.cell? ⟨w.heap.size, 1, none⟩ = some (.int .u32 m.id) ∧ w'.cell? ⟨w.heap.size, 2, none⟩ = some (.int .u32 m.yours) ∧ w'.cell? ⟨w.heap.size, 3, none⟩ = some (.int .u8 m.cl.a) ∧ w'.cell? ⟨w.heap.size, 4, none⟩ = some (.int .u8 m.cl.b) ∧ w'.cell? ⟨w.heap.size, 5, none⟩ = some (.int .u8 m.cl.c) ∧ w'.cell? ⟨w.heap.size, 6, none⟩ = some (.int .u8 m.cl.d) ∧ w'.cell? ⟨w.heap.size, 7, none⟩ = some (.int .u8 m.cl.e) ∧ w'.cell? ⟨w.heap.size, 8, none⟩ = some (.int .u8 m.cl.f) ∧ w'.cell? ⟨w.heap.size, 9, none⟩ = some (.int .i64 m.ty) ∧ w'.cell? ⟨w.heap.size, 10, none⟩ = some (.int .u32 m.server) ∧ w'.cell? ⟨w.heap.size, 11, none⟩ = some (.int .u32 m.asked) ∧ w'.cell? ⟨w.heap.size, 12, none⟩ = some (.int .i64 3600) ∧ w'.cell? ⟨w.heap.size, 13, none⟩ = some (.int .u32 m.mask) ∧ w'.cell? ⟨w.heap.size, 14, none⟩ = some (.int .u32 m.router) ∧ w'.cell? ⟨w.heap.size, 15, none⟩ = some (.int .u32 m.resolver)) (go_keep) (fail)
  rename_i hHeld
  have H1 : IsC ((((((((((((((((((W.setCell ⟨b, 6, none⟩ (.int .i64 3)).setCell ⟨b, 26, none⟩ (.int .i64 m.op)).setCell ⟨b, 27, none⟩ (.int .u32 m.id)).setCell ⟨b, 28, none⟩ (.int .u32 m.yours)).setCell ⟨b, 29, none⟩ (.int .u8 m.cl.a)).setCell ⟨b, 30, none⟩ (.int .u8 m.cl.b)).setCell ⟨b, 31, none⟩ (.int .u8 m.cl.c)).setCell ⟨b, 32, none⟩ (.int .u8 m.cl.d)).setCell ⟨b, 33, none⟩ (.int .u8 m.cl.e)).setCell ⟨b, 34, none⟩ (.int .u8 m.cl.f)).setCell ⟨b, 35, none⟩ (.int .i64 m.ty)).setCell ⟨b, 36, none⟩ (.int .u32 m.server)).setCell ⟨b, 37, none⟩ (.int .u32 m.asked)).setCell ⟨b, 38, none⟩ (.int .i64 3600)).setCell ⟨b, 39, none⟩ (.int .u32 m.mask)).setCell ⟨b, 40, none⟩ (.int .u32 m.router)).setCell ⟨b, 41, none⟩ (.int .u32 m.resolver)).setCell ⟨b, 42, none⟩ (.int .i64 now)) b mac { s with st := 3, lease := bindL m sv, fr := now } := by
    have H := (((((((((((((((((hb.set_ 6 (.int .i64 3)).set_ 26 (.int .i64 m.op)).set_ 27 (.int .u32 m.id)).set_ 28 (.int .u32 m.yours)).set_ 29 (.int .u8 m.cl.a)).set_ 30 (.int .u8 m.cl.b)).set_ 31 (.int .u8 m.cl.c)).set_ 32 (.int .u8 m.cl.d)).set_ 33 (.int .u8 m.cl.e)).set_ 34 (.int .u8 m.cl.f)).set_ 35 (.int .i64 m.ty)).set_ 36 (.int .u32 m.server)).set_ 37 (.int .u32 m.asked)).set_ 38 (.int .i64 3600)).set_ 39 (.int .u32 m.mask)).set_ 40 (.int .u32 m.router)).set_ 41 (.int .u32 m.resolver)).set_ 42 (.int .i64 now)
    rw [HM.out]
    exact Blk.eq_ H (by kernel_rfl)
  have G1 : W.grownBy ((((((((((((((((((W.setCell ⟨b, 6, none⟩ (.int .i64 3)).setCell ⟨b, 26, none⟩ (.int .i64 m.op)).setCell ⟨b, 27, none⟩ (.int .u32 m.id)).setCell ⟨b, 28, none⟩ (.int .u32 m.yours)).setCell ⟨b, 29, none⟩ (.int .u8 m.cl.a)).setCell ⟨b, 30, none⟩ (.int .u8 m.cl.b)).setCell ⟨b, 31, none⟩ (.int .u8 m.cl.c)).setCell ⟨b, 32, none⟩ (.int .u8 m.cl.d)).setCell ⟨b, 33, none⟩ (.int .u8 m.cl.e)).setCell ⟨b, 34, none⟩ (.int .u8 m.cl.f)).setCell ⟨b, 35, none⟩ (.int .i64 m.ty)).setCell ⟨b, 36, none⟩ (.int .u32 m.server)).setCell ⟨b, 37, none⟩ (.int .u32 m.asked)).setCell ⟨b, 38, none⟩ (.int .i64 3600)).setCell ⟨b, 39, none⟩ (.int .u32 m.mask)).setCell ⟨b, 40, none⟩ (.int .u32 m.router)).setCell ⟨b, 41, none⟩ (.int .u32 m.resolver)).setCell ⟨b, 42, none⟩ (.int .i64 now)) (some b) := only_setCell (p := ⟨b, 42, none⟩) (only_setCell (p := ⟨b, 41, none⟩) (only_setCell (p := ⟨b, 40, none⟩) (only_setCell (p := ⟨b, 39, none⟩) (only_setCell (p := ⟨b, 38, none⟩) (only_setCell (p := ⟨b, 37, none⟩) (only_setCell (p := ⟨b, 36, none⟩) (only_setCell (p := ⟨b, 35, none⟩) (only_setCell (p := ⟨b, 34, none⟩) (only_setCell (p := ⟨b, 33, none⟩) (only_setCell (p := ⟨b, 32, none⟩) (only_setCell (p := ⟨b, 31, none⟩) (only_setCell (p := ⟨b, 30, none⟩) (only_setCell (p := ⟨b, 29, none⟩) (only_setCell (p := ⟨b, 28, none⟩) (only_setCell (p := ⟨b, 27, none⟩) (only_setCell (p := ⟨b, 26, none⟩) (only_setCell (p := ⟨b, 6, none⟩) (World.grownBy.refl _ _) (.inl rfl) _) (.inl rfl) _) (.inl rfl) _) (.inl rfl) _) (.inl rfl) _) (.inl rfl) _) (.inl rfl) _) (.inl rfl) _) (.inl rfl) _) (.inl rfl) _) (.inl rfl) _) (.inl rfl) _) (.inl rfl) _) (.inl rfl) _) (.inl rfl) _) (.inl rfl) _) (.inl rfl) _) (.inl rfl) _
  have G0 := Lib.hid g0
  have HT := Lib.hid hT
  clear hb g0 M0 c42 f42 f6 c6 hT d0 d1 d2 d3 d4 d5 d6 d7 d8 d9 d10 d11 d12 d13 d14 d15 c26 f26 c27 f27 c28 f28 c29 f29 c30 f30 c31 f31 c32 f32 c33 f33 c34 f34 c35 f35 c36 f36 c37 f37 c38 f38 c39 f39 c40 f40 c41 f41
  have ok1 : St.ok { s with st := 3, lease := bindL m sv, fr := now } := ⟨by simp, by simp, by have := HT.out.1; simp; omega, HT.out.2, h0, h1, hs.n0, hs.n1⟩
  have H1' := Lib.hid H1; clear H1
  have G1' := Lib.hid G1; clear G1
  go_wp2_with fail
  refine (timeC b mac _ _ (Blk.drew H1'.out) ok1).mono ?_
  rintro e w2 ⟨rfl, hw2⟩
  have H2 : IsC w2 b mac { s with st := 3, lease := bindL m sv, fr := now } := by rw [hw2]; exact Blk.drew H1'.out
  have G2 : W.grownBy w2 (some b) := by rw [hw2]; exact only_drew G1'.out
  clear hw2 H1' G1' hHeld
  have c8 : w2.cell? ⟨b, 8, none⟩ = some (.int .i64 s.next) := H2.cell 8
  have f8 := Blk.frozen H2 8
  generalize hbt : (bindL m sv).time = bt at *
  have HBT := Lib.hid hbt; clear hbt
  have t0 : 0 ≤ bt := by have := HT.out.1; omega
  have t1 : bt ≤ 2147483647 := HT.out.2
  go_wp2_with fail
  refine (plus now (10 * bt / 2) _ h0 (by omega) (by omega) (by omega)).mono ?_
  rintro e w3 ⟨rfl, rfl⟩
  have H3 := H2.set 8 (.int .i64 (now + 10 * bt / 2)) { s with st := 3, lease := bindL m sv, fr := now, next := now + 10 * bt / 2 } rfl
  have H3' := Lib.hid H3; clear H3
  go_wp2
  go_end0
  refine ⟨rfl, ?_, only_trans G0.out (only_setCell (p := ⟨b, 8, none⟩) G2 (.inl rfl) _)⟩
  unfold bindS
  rw [HBT.out]
  exact H3'.out
set_option maxHeartbeats 3200000 in
theorem bindsC_m1 (b : Nat) (mac : M6) (s : St) (m : Ls) (sv now : Int) (w : World) (h : IsC w b mac s) (hs : s.ok) (h0 : 0 ≤ now) (h1 : now ≤ 1152921504606846976) (a1 : m.server ≠ 0) (a2 : 1 ≤ m.time) (a3 : m.time ≤ 2147483647)
    (HM : Hid (bindL m sv = ⟨m.op, m.id, m.yours, m.cl, m.ty, m.server, m.asked, m.time, m.mask, m.router, m.resolver⟩)) :
    Calls Try.prog 35 #[.pointer (some ⟨b, 0, none⟩), .agg m.cs.toArray, .int .u32 sv, .int .i64 now] w fun e w' => e = .returned (.tuple #[]) ∧ IsC w' b mac (bindS s m sv now) ∧ w.grownBy w' (some b) := by
  have hT := bindL_time m sv
  have b1 : ((m.server : Int) == 0) = false := by rw [beq_eq_false_iff_ne]; exact a1
  clear a1
  simp only [Ls.cs]
  have hneq : b ≠ w.heap.size := by have := Blk.lt h; omega
  go_enter Try.func35, Try.ntmps35
  go_wp2_with fail
  have M0 := Blk.new w 27 #[.int .i64 m.op, .int .u32 m.id, .int .u32 m.yours, .int .u8 m.cl.a, .int .u8 m.cl.b, .int .u8 m.cl.c, .int .u8 m.cl.d, .int .u8 m.cl.e, .int .u8 m.cl.f, .int .i64 m.ty, .int .u32 m.server, .int .u32 m.asked, .int .i64 m.time, .int .u32 m.mask, .int .u32 m.router, .int .u32 m.resolver]
  have hb := h.nx (al (rf w) (.cells #[.int .i64 m.op, .int .u32 m.id, .int .u32 m.yours, .int .u8 m.cl.a, .int .u8 m.cl.b, .int .u8 m.cl.c, .int .u8 m.cl.d, .int .u8 m.cl.e, .int .u8 m.cl.f, .int .i64 m.ty, .int .u32 m.server, .int .u32 m.asked, .int .i64 m.time, .int .u32 m.mask, .int .u32 m.router, .int .u32 m.resolver] 27))
  have g0 : w.grownBy (w.alloc (.cells #[.int .i64 m.op, .int .u32 m.id, .int .u32 m.yours, .int .u8 m.cl.a, .int .u8 m.cl.b, .int .u8 m.cl.c, .int .u8 m.cl.d, .int .u8 m.cl.e, .int .u8 m.cl.f, .int .i64 m.ty, .int .u32 m.server, .int .u32 m.asked, .int .i64 m.time, .int .u32 m.mask, .int .u32 m.router, .int .u32 m.resolver] 27)) (some b) := only_alloc (World.grownBy.refl _ _) _
  have hz : (w.alloc (.cells #[.int .i64 m.op, .int .u32 m.id, .int .u32 m.yours, .int .u8 m.cl.a, .int .u8 m.cl.b, .int .u8 m.cl.c, .int .u8 m.cl.d, .int .u8 m.cl.e, .int .u8 m.cl.f, .int .i64 m.ty, .int .u32 m.server, .int .u32 m.asked, .int .i64 m.time, .int .u32 m.mask, .int .u32 m.router, .int .u32 m.resolver] 27)).heap.size = w.heap.size + 1 := by simp
  generalize w.alloc (.cells #[.int .i64 m.op, .int .u32 m.id, .int .u32 m.yours, .int .u8 m.cl.a, .int .u8 m.cl.b, .int .u8 m.cl.c, .int .u8 m.cl.d, .int .u8 m.cl.e, .int .u8 m.cl.f, .int .i64 m.ty, .int .u32 m.server, .int .u32 m.asked, .int .i64 m.time, .int .u32 m.mask, .int .u32 m.router, .int .u32 m.resolver] 27) = W at M0 hb g0 hz ⊢
  have HZ := Lib.hid hz; clear hz
  have HN := Lib.hid hneq; clear hneq
  have hn1 := HN.out
  have hn2 := HN.out.symm
  have d0 : W.cell? ⟨w.heap.size, 0, none⟩ = some (.int .i64 m.op) := M0.cell 0
  have d1 : W.cell? ⟨w.heap.size, 1, none⟩ = some (.int .u32 m.id) := M0.cell 1
  have d2 : W.cell? ⟨w.heap.size, 2, none⟩ = some (.int .u32 m.yours) := M0.cell 2
  have d3 : W.cell? ⟨w.heap.size, 3, none⟩ = some (.int .u8 m.cl.a) := M0.cell 3
  have d4 : W.cell? ⟨w.heap.size, 4, none⟩ = some (.int .u8 m.cl.b) := M0.cell 4
  have d5 : W.cell? ⟨w.heap.size, 5, none⟩ = some (.int .u8 m.cl.c) := M0.cell 5
  have d6 : W.cell? ⟨w.heap.size, 6, none⟩ = some (.int .u8 m.cl.d) := M0.cell 6
  have d7 : W.cell? ⟨w.heap.size, 7, none⟩ = some (.int .u8 m.cl.e) := M0.cell 7
  have d8 : W.cell? ⟨w.heap.size, 8, none⟩ = some (.int .u8 m.cl.f) := M0.cell 8
  have d9 : W.cell? ⟨w.heap.size, 9, none⟩ = some (.int .i64 m.ty) := M0.cell 9
  have d10 : W.cell? ⟨w.heap.size, 10, none⟩ = some (.int .u32 m.server) := M0.cell 10
  have d11 : W.cell? ⟨w.heap.size, 11, none⟩ = some (.int .u32 m.asked) := M0.cell 11
  have d12 : W.cell? ⟨w.heap.size, 12, none⟩ = some (.int .i64 m.time) := M0.cell 12
  have d13 : W.cell? ⟨w.heap.size, 13, none⟩ = some (.int .u32 m.mask) := M0.cell 13
  have d14 : W.cell? ⟨w.heap.size, 14, none⟩ = some (.int .u32 m.router) := M0.cell 14
  have d15 : W.cell? ⟨w.heap.size, 15, none⟩ = some (.int .u32 m.resolver) := M0.cell 15
  have c26 : W.cell? ⟨b, 26, none⟩ = some (.int .i64 s.lease.op) := hb.cell 26
  have f26 := Blk.frozen hb 26
  have c27 : W.cell? ⟨b, 27, none⟩ = some (.int .u32 s.lease.id) := hb.cell 27
  have f27 := Blk.frozen hb 27
  have c28 : W.cell? ⟨b, 28, none⟩ = some (.int .u32 s.lease.yours) := hb.cell 28
  have f28 := Blk.frozen hb 28
  have c29 : W.cell? ⟨b, 29, none⟩ = some (.int .u8 s.lease.cl.a) := hb.cell 29
  have f29 := Blk.frozen hb 29
  have c30 : W.cell? ⟨b, 30, none⟩ = some (.int .u8 s.lease.cl.b) := hb.cell 30
  have f30 := Blk.frozen hb 30
  have c31 : W.cell? ⟨b, 31, none⟩ = some (.int .u8 s.lease.cl.c) := hb.cell 31
  have f31 := Blk.frozen hb 31
  have c32 : W.cell? ⟨b, 32, none⟩ = some (.int .u8 s.lease.cl.d) := hb.cell 32
  have f32 := Blk.frozen hb 32
  have c33 : W.cell? ⟨b, 33, none⟩ = some (.int .u8 s.lease.cl.e) := hb.cell 33
  have f33 := Blk.frozen hb 33
  have c34 : W.cell? ⟨b, 34, none⟩ = some (.int .u8 s.lease.cl.f) := hb.cell 34
  have f34 := Blk.frozen hb 34
  have c35 : W.cell? ⟨b, 35, none⟩ = some (.int .i64 s.lease.ty) := hb.cell 35
  have f35 := Blk.frozen hb 35
  have c36 : W.cell? ⟨b, 36, none⟩ = some (.int .u32 s.lease.server) := hb.cell 36
  have f36 := Blk.frozen hb 36
  have c37 : W.cell? ⟨b, 37, none⟩ = some (.int .u32 s.lease.asked) := hb.cell 37
  have f37 := Blk.frozen hb 37
  have c38 : W.cell? ⟨b, 38, none⟩ = some (.int .i64 s.lease.time) := hb.cell 38
  have f38 := Blk.frozen hb 38
  have c39 : W.cell? ⟨b, 39, none⟩ = some (.int .u32 s.lease.mask) := hb.cell 39
  have f39 := Blk.frozen hb 39
  have c40 : W.cell? ⟨b, 40, none⟩ = some (.int .u32 s.lease.router) := hb.cell 40
  have f40 := Blk.frozen hb 40
  have c41 : W.cell? ⟨b, 41, none⟩ = some (.int .u32 s.lease.resolver) := hb.cell 41
  have f41 := Blk.frozen hb 41
  have c6 : W.cell? ⟨b, 6, none⟩ = some (.int .i64 s.st) := hb.cell 6
  have c42 : W.cell? ⟨b, 42, none⟩ = some (.int .i64 s.fr) := hb.cell 42
  have f6 := Blk.frozen hb 6
  have f42 := Blk.frozen hb 42
  go_region_held3 (fun w' => w'.cell? ⟨w.heap.size, 0, none⟩ = some (.int .i64 m.op) ∧ w'.cell? ⟨w.heap.size, 1, none⟩ = some (.int .u32 m.id) ∧ w'.cell? ⟨w.heap.size, 2, none⟩ = some (.int .u32 m.yours) ∧ w'.cell? ⟨w.heap.size, 3, none⟩ = some (.int .u8 m.cl.a) ∧ w'.cell? ⟨w.heap.size, 4, none⟩ = some (.int .u8 m.cl.b) ∧ w'.cell? ⟨w.heap.size, 5, none⟩ = some (.int .u8 m.cl.c) ∧ w'.cell? ⟨w.heap.size, 6, none⟩ = some (.int .u8 m.cl.d) ∧ w'.cell? ⟨w.heap.size, 7, none⟩ = some (.int .u8 m.cl.e) ∧ w'.cell? ⟨w.heap.size, 8, none⟩ = some (.int .u8 m.cl.f) ∧ w'.cell? ⟨w.heap.size, 9, none⟩ = some (.int .i64 m.ty) ∧ w'.cell? ⟨w.heap.size, 10, none⟩ = some (.int .u32 m.server) ∧ w'.cell? ⟨w.heap.size, 11, none⟩ = some (.int .u32 m.asked) ∧ w'.cell? ⟨w.heap.size, 12, none⟩ = some (.int .i64 m.time) ∧ w'.cell? ⟨w.heap.size, 13, none⟩ = some (.int .u32 m.mask) ∧ w'.cell? ⟨w.heap.size, 14, none⟩ = some (.int .u32 m.router) ∧ w'.cell? ⟨w.heap.size, 15, none⟩ = some (.int .u32 m.resolver)) (go_keep) (fail)
  rename_i hHeld
  have H1 : IsC ((((((((((((((((((W.setCell ⟨b, 6, none⟩ (.int .i64 3)).setCell ⟨b, 26, none⟩ (.int .i64 m.op)).setCell ⟨b, 27, none⟩ (.int .u32 m.id)).setCell ⟨b, 28, none⟩ (.int .u32 m.yours)).setCell ⟨b, 29, none⟩ (.int .u8 m.cl.a)).setCell ⟨b, 30, none⟩ (.int .u8 m.cl.b)).setCell ⟨b, 31, none⟩ (.int .u8 m.cl.c)).setCell ⟨b, 32, none⟩ (.int .u8 m.cl.d)).setCell ⟨b, 33, none⟩ (.int .u8 m.cl.e)).setCell ⟨b, 34, none⟩ (.int .u8 m.cl.f)).setCell ⟨b, 35, none⟩ (.int .i64 m.ty)).setCell ⟨b, 36, none⟩ (.int .u32 m.server)).setCell ⟨b, 37, none⟩ (.int .u32 m.asked)).setCell ⟨b, 38, none⟩ (.int .i64 m.time)).setCell ⟨b, 39, none⟩ (.int .u32 m.mask)).setCell ⟨b, 40, none⟩ (.int .u32 m.router)).setCell ⟨b, 41, none⟩ (.int .u32 m.resolver)).setCell ⟨b, 42, none⟩ (.int .i64 now)) b mac { s with st := 3, lease := bindL m sv, fr := now } := by
    have H := (((((((((((((((((hb.set_ 6 (.int .i64 3)).set_ 26 (.int .i64 m.op)).set_ 27 (.int .u32 m.id)).set_ 28 (.int .u32 m.yours)).set_ 29 (.int .u8 m.cl.a)).set_ 30 (.int .u8 m.cl.b)).set_ 31 (.int .u8 m.cl.c)).set_ 32 (.int .u8 m.cl.d)).set_ 33 (.int .u8 m.cl.e)).set_ 34 (.int .u8 m.cl.f)).set_ 35 (.int .i64 m.ty)).set_ 36 (.int .u32 m.server)).set_ 37 (.int .u32 m.asked)).set_ 38 (.int .i64 m.time)).set_ 39 (.int .u32 m.mask)).set_ 40 (.int .u32 m.router)).set_ 41 (.int .u32 m.resolver)).set_ 42 (.int .i64 now)
    rw [HM.out]
    exact Blk.eq_ H (by kernel_rfl)
  have G1 : W.grownBy ((((((((((((((((((W.setCell ⟨b, 6, none⟩ (.int .i64 3)).setCell ⟨b, 26, none⟩ (.int .i64 m.op)).setCell ⟨b, 27, none⟩ (.int .u32 m.id)).setCell ⟨b, 28, none⟩ (.int .u32 m.yours)).setCell ⟨b, 29, none⟩ (.int .u8 m.cl.a)).setCell ⟨b, 30, none⟩ (.int .u8 m.cl.b)).setCell ⟨b, 31, none⟩ (.int .u8 m.cl.c)).setCell ⟨b, 32, none⟩ (.int .u8 m.cl.d)).setCell ⟨b, 33, none⟩ (.int .u8 m.cl.e)).setCell ⟨b, 34, none⟩ (.int .u8 m.cl.f)).setCell ⟨b, 35, none⟩ (.int .i64 m.ty)).setCell ⟨b, 36, none⟩ (.int .u32 m.server)).setCell ⟨b, 37, none⟩ (.int .u32 m.asked)).setCell ⟨b, 38, none⟩ (.int .i64 m.time)).setCell ⟨b, 39, none⟩ (.int .u32 m.mask)).setCell ⟨b, 40, none⟩ (.int .u32 m.router)).setCell ⟨b, 41, none⟩ (.int .u32 m.resolver)).setCell ⟨b, 42, none⟩ (.int .i64 now)) (some b) := only_setCell (p := ⟨b, 42, none⟩) (only_setCell (p := ⟨b, 41, none⟩) (only_setCell (p := ⟨b, 40, none⟩) (only_setCell (p := ⟨b, 39, none⟩) (only_setCell (p := ⟨b, 38, none⟩) (only_setCell (p := ⟨b, 37, none⟩) (only_setCell (p := ⟨b, 36, none⟩) (only_setCell (p := ⟨b, 35, none⟩) (only_setCell (p := ⟨b, 34, none⟩) (only_setCell (p := ⟨b, 33, none⟩) (only_setCell (p := ⟨b, 32, none⟩) (only_setCell (p := ⟨b, 31, none⟩) (only_setCell (p := ⟨b, 30, none⟩) (only_setCell (p := ⟨b, 29, none⟩) (only_setCell (p := ⟨b, 28, none⟩) (only_setCell (p := ⟨b, 27, none⟩) (only_setCell (p := ⟨b, 26, none⟩) (only_setCell (p := ⟨b, 6, none⟩) (World.grownBy.refl _ _) (.inl rfl) _) (.inl rfl) _) (.inl rfl) _) (.inl rfl) _) (.inl rfl) _) (.inl rfl) _) (.inl rfl) _) (.inl rfl) _) (.inl rfl) _) (.inl rfl) _) (.inl rfl) _) (.inl rfl) _) (.inl rfl) _) (.inl rfl) _) (.inl rfl) _) (.inl rfl) _) (.inl rfl) _) (.inl rfl) _
  have G0 := Lib.hid g0
  have HT := Lib.hid hT
  clear hb g0 M0 c42 f42 f6 c6 hT d0 d1 d2 d3 d4 d5 d6 d7 d8 d9 d10 d11 d12 d13 d14 d15 c26 f26 c27 f27 c28 f28 c29 f29 c30 f30 c31 f31 c32 f32 c33 f33 c34 f34 c35 f35 c36 f36 c37 f37 c38 f38 c39 f39 c40 f40 c41 f41
  have ok1 : St.ok { s with st := 3, lease := bindL m sv, fr := now } := ⟨by simp, by simp, by have := HT.out.1; simp; omega, HT.out.2, h0, h1, hs.n0, hs.n1⟩
  have H1' := Lib.hid H1; clear H1
  have G1' := Lib.hid G1; clear G1
  go_wp2_with fail
  refine (timeC b mac _ _ (Blk.drew H1'.out) ok1).mono ?_
  rintro e w2 ⟨rfl, hw2⟩
  have H2 : IsC w2 b mac { s with st := 3, lease := bindL m sv, fr := now } := by rw [hw2]; exact Blk.drew H1'.out
  have G2 : W.grownBy w2 (some b) := by rw [hw2]; exact only_drew G1'.out
  clear hw2 H1' G1' hHeld
  have c8 : w2.cell? ⟨b, 8, none⟩ = some (.int .i64 s.next) := H2.cell 8
  have f8 := Blk.frozen H2 8
  generalize hbt : (bindL m sv).time = bt at *
  have HBT := Lib.hid hbt; clear hbt
  have t0 : 0 ≤ bt := by have := HT.out.1; omega
  have t1 : bt ≤ 2147483647 := HT.out.2
  go_wp2_with fail
  refine (plus now (10 * bt / 2) _ h0 (by omega) (by omega) (by omega)).mono ?_
  rintro e w3 ⟨rfl, rfl⟩
  have H3 := H2.set 8 (.int .i64 (now + 10 * bt / 2)) { s with st := 3, lease := bindL m sv, fr := now, next := now + 10 * bt / 2 } rfl
  have H3' := Lib.hid H3; clear H3
  go_wp2
  go_end0
  refine ⟨rfl, ?_, only_trans G0.out (only_setCell (p := ⟨b, 8, none⟩) G2 (.inl rfl) _)⟩
  unfold bindS
  rw [HBT.out]
  exact H3'.out
set_option maxHeartbeats 3200000 in
theorem bindsC_m2 (b : Nat) (mac : M6) (s : St) (m : Ls) (sv now : Int) (w : World) (h : IsC w b mac s) (hs : s.ok) (h0 : 0 ≤ now) (h1 : now ≤ 1152921504606846976) (a1 : m.server ≠ 0) (a2 : 2147483647 < m.time)
    (HM : Hid (bindL m sv = ⟨m.op, m.id, m.yours, m.cl, m.ty, m.server, m.asked, 2147483647, m.mask, m.router, m.resolver⟩)) :
    Calls Try.prog 35 #[.pointer (some ⟨b, 0, none⟩), .agg m.cs.toArray, .int .u32 sv, .int .i64 now] w fun e w' => e = .returned (.tuple #[]) ∧ IsC w' b mac (bindS s m sv now) ∧ w.grownBy w' (some b) := by
  have hT := bindL_time m sv
  have b1 : ((m.server : Int) == 0) = false := by rw [beq_eq_false_iff_ne]; exact a1
  clear a1
  simp only [Ls.cs]
  have hneq : b ≠ w.heap.size := by have := Blk.lt h; omega
  go_enter Try.func35, Try.ntmps35
  go_wp2_with fail
  have M0 := Blk.new w 27 #[.int .i64 m.op, .int .u32 m.id, .int .u32 m.yours, .int .u8 m.cl.a, .int .u8 m.cl.b, .int .u8 m.cl.c, .int .u8 m.cl.d, .int .u8 m.cl.e, .int .u8 m.cl.f, .int .i64 m.ty, .int .u32 m.server, .int .u32 m.asked, .int .i64 2147483647, .int .u32 m.mask, .int .u32 m.router, .int .u32 m.resolver]
  have hb := h.nx (al (rf w) (.cells #[.int .i64 m.op, .int .u32 m.id, .int .u32 m.yours, .int .u8 m.cl.a, .int .u8 m.cl.b, .int .u8 m.cl.c, .int .u8 m.cl.d, .int .u8 m.cl.e, .int .u8 m.cl.f, .int .i64 m.ty, .int .u32 m.server, .int .u32 m.asked, .int .i64 2147483647, .int .u32 m.mask, .int .u32 m.router, .int .u32 m.resolver] 27))
  have g0 : w.grownBy (w.alloc (.cells #[.int .i64 m.op, .int .u32 m.id, .int .u32 m.yours, .int .u8 m.cl.a, .int .u8 m.cl.b, .int .u8 m.cl.c, .int .u8 m.cl.d, .int .u8 m.cl.e, .int .u8 m.cl.f, .int .i64 m.ty, .int .u32 m.server, .int .u32 m.asked, .int .i64 2147483647, .int .u32 m.mask, .int .u32 m.router, .int .u32 m.resolver] 27)) (some b) := only_alloc (World.grownBy.refl _ _) _
  have hz : (w.alloc (.cells #[.int .i64 m.op, .int .u32 m.id, .int .u32 m.yours, .int .u8 m.cl.a, .int .u8 m.cl.b, .int .u8 m.cl.c, .int .u8 m.cl.d, .int .u8 m.cl.e, .int .u8 m.cl.f, .int .i64 m.ty, .int .u32 m.server, .int .u32 m.asked, .int .i64 2147483647, .int .u32 m.mask, .int .u32 m.router, .int .u32 m.resolver] 27)).heap.size = w.heap.size + 1 := by simp
  generalize w.alloc (.cells #[.int .i64 m.op, .int .u32 m.id, .int .u32 m.yours, .int .u8 m.cl.a, .int .u8 m.cl.b, .int .u8 m.cl.c, .int .u8 m.cl.d, .int .u8 m.cl.e, .int .u8 m.cl.f, .int .i64 m.ty, .int .u32 m.server, .int .u32 m.asked, .int .i64 2147483647, .int .u32 m.mask, .int .u32 m.router, .int .u32 m.resolver] 27) = W at M0 hb g0 hz ⊢
  have HZ := Lib.hid hz; clear hz
  have HN := Lib.hid hneq; clear hneq
  have hn1 := HN.out
  have hn2 := HN.out.symm
  have d0 : W.cell? ⟨w.heap.size, 0, none⟩ = some (.int .i64 m.op) := M0.cell 0
  have d1 : W.cell? ⟨w.heap.size, 1, none⟩ = some (.int .u32 m.id) := M0.cell 1
  have d2 : W.cell? ⟨w.heap.size, 2, none⟩ = some (.int .u32 m.yours) := M0.cell 2
  have d3 : W.cell? ⟨w.heap.size, 3, none⟩ = some (.int .u8 m.cl.a) := M0.cell 3
  have d4 : W.cell? ⟨w.heap.size, 4, none⟩ = some (.int .u8 m.cl.b) := M0.cell 4
  have d5 : W.cell? ⟨w.heap.size, 5, none⟩ = some (.int .u8 m.cl.c) := M0.cell 5
  have d6 : W.cell? ⟨w.heap.size, 6, none⟩ = some (.int .u8 m.cl.d) := M0.cell 6
  have d7 : W.cell? ⟨w.heap.size, 7, none⟩ = some (.int .u8 m.cl.e) := M0.cell 7
  have d8 : W.cell? ⟨w.heap.size, 8, none⟩ = some (.int .u8 m.cl.f) := M0.cell 8
  have d9 : W.cell? ⟨w.heap.size, 9, none⟩ = some (.int .i64 m.ty) := M0.cell 9
  have d10 : W.cell? ⟨w.heap.size, 10, none⟩ = some (.int .u32 m.server) := M0.cell 10
  have d11 : W.cell? ⟨w.heap.size, 11, none⟩ = some (.int .u32 m.asked) := M0.cell 11
  have d12 : W.cell? ⟨w.heap.size, 12, none⟩ = some (.int .i64 2147483647) := M0.cell 12
  have d13 : W.cell? ⟨w.heap.size, 13, none⟩ = some (.int .u32 m.mask) := M0.cell 13
  have d14 : W.cell? ⟨w.heap.size, 14, none⟩ = some (.int .u32 m.router) := M0.cell 14
  have d15 : W.cell? ⟨w.heap.size, 15, none⟩ = some (.int .u32 m.resolver) := M0.cell 15
  have c26 : W.cell? ⟨b, 26, none⟩ = some (.int .i64 s.lease.op) := hb.cell 26
  have f26 := Blk.frozen hb 26
  have c27 : W.cell? ⟨b, 27, none⟩ = some (.int .u32 s.lease.id) := hb.cell 27
  have f27 := Blk.frozen hb 27
  have c28 : W.cell? ⟨b, 28, none⟩ = some (.int .u32 s.lease.yours) := hb.cell 28
  have f28 := Blk.frozen hb 28
  have c29 : W.cell? ⟨b, 29, none⟩ = some (.int .u8 s.lease.cl.a) := hb.cell 29
  have f29 := Blk.frozen hb 29
  have c30 : W.cell? ⟨b, 30, none⟩ = some (.int .u8 s.lease.cl.b) := hb.cell 30
  have f30 := Blk.frozen hb 30
  have c31 : W.cell? ⟨b, 31, none⟩ = some (.int .u8 s.lease.cl.c) := hb.cell 31
  have f31 := Blk.frozen hb 31
  have c32 : W.cell? ⟨b, 32, none⟩ = some (.int .u8 s.lease.cl.d) := hb.cell 32
  have f32 := Blk.frozen hb 32
  have c33 : W.cell? ⟨b, 33, none⟩ = some (.int .u8 s.lease.cl.e) := hb.cell 33
  have f33 := Blk.frozen hb 33
  have c34 : W.cell? ⟨b, 34, none⟩ = some (.int .u8 s.lease.cl.f) := hb.cell 34
  have f34 := Blk.frozen hb 34
  have c35 : W.cell? ⟨b, 35, none⟩ = some (.int .i64 s.lease.ty) := hb.cell 35
  have f35 := Blk.frozen hb 35
  have c36 : W.cell? ⟨b, 36, none⟩ = some (.int .u32 s.lease.server) := hb.cell 36
  have f36 := Blk.frozen hb 36
  have c37 : W.cell? ⟨b, 37, none⟩ = some (.int .u32 s.lease.asked) := hb.cell 37
  have f37 := Blk.frozen hb 37
  have c38 : W.cell? ⟨b, 38, none⟩ = some (.int .i64 s.lease.time) := hb.cell 38
  have f38 := Blk.frozen hb 38
  have c39 : W.cell? ⟨b, 39, none⟩ = some (.int .u32 s.lease.mask) := hb.cell 39
  have f39 := Blk.frozen hb 39
  have c40 : W.cell? ⟨b, 40, none⟩ = some (.int .u32 s.lease.router) := hb.cell 40
  have f40 := Blk.frozen hb 40
  have c41 : W.cell? ⟨b, 41, none⟩ = some (.int .u32 s.lease.resolver) := hb.cell 41
  have f41 := Blk.frozen hb 41
  have c6 : W.cell? ⟨b, 6, none⟩ = some (.int .i64 s.st) := hb.cell 6
  have c42 : W.cell? ⟨b, 42, none⟩ = some (.int .i64 s.fr) := hb.cell 42
  have f6 := Blk.frozen hb 6
  have f42 := Blk.frozen hb 42
  go_region_held3 (fun w' => w'.cell? ⟨w.heap.size, 0, none⟩ = some (.int .i64 m.op) ∧ w'.cell? ⟨w.heap.size, 1, none⟩ = some (.int .u32 m.id) ∧ w'.cell? ⟨w.heap.size, 2, none⟩ = some (.int .u32 m.yours) ∧ w'.cell? ⟨w.heap.size, 3, none⟩ = some (.int .u8 m.cl.a) ∧ w'.cell? ⟨w.heap.size, 4, none⟩ = some (.int .u8 m.cl.b) ∧ w'.cell? ⟨w.heap.size, 5, none⟩ = some (.int .u8 m.cl.c) ∧ w'.cell? ⟨w.heap.size, 6, none⟩ = some (.int .u8 m.cl.d) ∧ w'.cell? ⟨w.heap.size, 7, none⟩ = some (.int .u8 m.cl.e) ∧ w'.cell? ⟨w.heap.size, 8, none⟩ = some (.int .u8 m.cl.f) ∧ w'.cell? ⟨w.heap.size, 9, none⟩ = some (.int .i64 m.ty) ∧ w'.cell? ⟨w.heap.size, 10, none⟩ = some (.int .u32 m.server) ∧ w'.cell? ⟨w.heap.size, 11, none⟩ = some (.int .u32 m.asked) ∧ w'.cell? ⟨w.heap.size, 12, none⟩ = some (.int .i64 2147483647) ∧ w'.cell? ⟨w.heap.size, 13, none⟩ = some (.int .u32 m.mask) ∧ w'.cell? ⟨w.heap.size, 14, none⟩ = some (.int .u32 m.router) ∧ w'.cell? ⟨w.heap.size, 15, none⟩ = some (.int .u32 m.resolver)) (go_keep) (fail)
  rename_i hHeld
  have H1 : IsC ((((((((((((((((((W.setCell ⟨b, 6, none⟩ (.int .i64 3)).setCell ⟨b, 26, none⟩ (.int .i64 m.op)).setCell ⟨b, 27, none⟩ (.int .u32 m.id)).setCell ⟨b, 28, none⟩ (.int .u32 m.yours)).setCell ⟨b, 29, none⟩ (.int .u8 m.cl.a)).setCell ⟨b, 30, none⟩ (.int .u8 m.cl.b)).setCell ⟨b, 31, none⟩ (.int .u8 m.cl.c)).setCell ⟨b, 32, none⟩ (.int .u8 m.cl.d)).setCell ⟨b, 33, none⟩ (.int .u8 m.cl.e)).setCell ⟨b, 34, none⟩ (.int .u8 m.cl.f)).setCell ⟨b, 35, none⟩ (.int .i64 m.ty)).setCell ⟨b, 36, none⟩ (.int .u32 m.server)).setCell ⟨b, 37, none⟩ (.int .u32 m.asked)).setCell ⟨b, 38, none⟩ (.int .i64 2147483647)).setCell ⟨b, 39, none⟩ (.int .u32 m.mask)).setCell ⟨b, 40, none⟩ (.int .u32 m.router)).setCell ⟨b, 41, none⟩ (.int .u32 m.resolver)).setCell ⟨b, 42, none⟩ (.int .i64 now)) b mac { s with st := 3, lease := bindL m sv, fr := now } := by
    have H := (((((((((((((((((hb.set_ 6 (.int .i64 3)).set_ 26 (.int .i64 m.op)).set_ 27 (.int .u32 m.id)).set_ 28 (.int .u32 m.yours)).set_ 29 (.int .u8 m.cl.a)).set_ 30 (.int .u8 m.cl.b)).set_ 31 (.int .u8 m.cl.c)).set_ 32 (.int .u8 m.cl.d)).set_ 33 (.int .u8 m.cl.e)).set_ 34 (.int .u8 m.cl.f)).set_ 35 (.int .i64 m.ty)).set_ 36 (.int .u32 m.server)).set_ 37 (.int .u32 m.asked)).set_ 38 (.int .i64 2147483647)).set_ 39 (.int .u32 m.mask)).set_ 40 (.int .u32 m.router)).set_ 41 (.int .u32 m.resolver)).set_ 42 (.int .i64 now)
    rw [HM.out]
    exact Blk.eq_ H (by kernel_rfl)
  have G1 : W.grownBy ((((((((((((((((((W.setCell ⟨b, 6, none⟩ (.int .i64 3)).setCell ⟨b, 26, none⟩ (.int .i64 m.op)).setCell ⟨b, 27, none⟩ (.int .u32 m.id)).setCell ⟨b, 28, none⟩ (.int .u32 m.yours)).setCell ⟨b, 29, none⟩ (.int .u8 m.cl.a)).setCell ⟨b, 30, none⟩ (.int .u8 m.cl.b)).setCell ⟨b, 31, none⟩ (.int .u8 m.cl.c)).setCell ⟨b, 32, none⟩ (.int .u8 m.cl.d)).setCell ⟨b, 33, none⟩ (.int .u8 m.cl.e)).setCell ⟨b, 34, none⟩ (.int .u8 m.cl.f)).setCell ⟨b, 35, none⟩ (.int .i64 m.ty)).setCell ⟨b, 36, none⟩ (.int .u32 m.server)).setCell ⟨b, 37, none⟩ (.int .u32 m.asked)).setCell ⟨b, 38, none⟩ (.int .i64 2147483647)).setCell ⟨b, 39, none⟩ (.int .u32 m.mask)).setCell ⟨b, 40, none⟩ (.int .u32 m.router)).setCell ⟨b, 41, none⟩ (.int .u32 m.resolver)).setCell ⟨b, 42, none⟩ (.int .i64 now)) (some b) := only_setCell (p := ⟨b, 42, none⟩) (only_setCell (p := ⟨b, 41, none⟩) (only_setCell (p := ⟨b, 40, none⟩) (only_setCell (p := ⟨b, 39, none⟩) (only_setCell (p := ⟨b, 38, none⟩) (only_setCell (p := ⟨b, 37, none⟩) (only_setCell (p := ⟨b, 36, none⟩) (only_setCell (p := ⟨b, 35, none⟩) (only_setCell (p := ⟨b, 34, none⟩) (only_setCell (p := ⟨b, 33, none⟩) (only_setCell (p := ⟨b, 32, none⟩) (only_setCell (p := ⟨b, 31, none⟩) (only_setCell (p := ⟨b, 30, none⟩) (only_setCell (p := ⟨b, 29, none⟩) (only_setCell (p := ⟨b, 28, none⟩) (only_setCell (p := ⟨b, 27, none⟩) (only_setCell (p := ⟨b, 26, none⟩) (only_setCell (p := ⟨b, 6, none⟩) (World.grownBy.refl _ _) (.inl rfl) _) (.inl rfl) _) (.inl rfl) _) (.inl rfl) _) (.inl rfl) _) (.inl rfl) _) (.inl rfl) _) (.inl rfl) _) (.inl rfl) _) (.inl rfl) _) (.inl rfl) _) (.inl rfl) _) (.inl rfl) _) (.inl rfl) _) (.inl rfl) _) (.inl rfl) _) (.inl rfl) _) (.inl rfl) _
  have G0 := Lib.hid g0
  have HT := Lib.hid hT
  clear hb g0 M0 c42 f42 f6 c6 hT d0 d1 d2 d3 d4 d5 d6 d7 d8 d9 d10 d11 d12 d13 d14 d15 c26 f26 c27 f27 c28 f28 c29 f29 c30 f30 c31 f31 c32 f32 c33 f33 c34 f34 c35 f35 c36 f36 c37 f37 c38 f38 c39 f39 c40 f40 c41 f41
  have ok1 : St.ok { s with st := 3, lease := bindL m sv, fr := now } := ⟨by simp, by simp, by have := HT.out.1; simp; omega, HT.out.2, h0, h1, hs.n0, hs.n1⟩
  have H1' := Lib.hid H1; clear H1
  have G1' := Lib.hid G1; clear G1
  go_wp2_with fail
  refine (timeC b mac _ _ (Blk.drew H1'.out) ok1).mono ?_
  rintro e w2 ⟨rfl, hw2⟩
  have H2 : IsC w2 b mac { s with st := 3, lease := bindL m sv, fr := now } := by rw [hw2]; exact Blk.drew H1'.out
  have G2 : W.grownBy w2 (some b) := by rw [hw2]; exact only_drew G1'.out
  clear hw2 H1' G1' hHeld
  have c8 : w2.cell? ⟨b, 8, none⟩ = some (.int .i64 s.next) := H2.cell 8
  have f8 := Blk.frozen H2 8
  generalize hbt : (bindL m sv).time = bt at *
  have HBT := Lib.hid hbt; clear hbt
  have t0 : 0 ≤ bt := by have := HT.out.1; omega
  have t1 : bt ≤ 2147483647 := HT.out.2
  go_wp2_with fail
  refine (plus now (10 * bt / 2) _ h0 (by omega) (by omega) (by omega)).mono ?_
  rintro e w3 ⟨rfl, rfl⟩
  have H3 := H2.set 8 (.int .i64 (now + 10 * bt / 2)) { s with st := 3, lease := bindL m sv, fr := now, next := now + 10 * bt / 2 } rfl
  have H3' := Lib.hid H3; clear H3
  go_wp2
  go_end0
  refine ⟨rfl, ?_, only_trans G0.out (only_setCell (p := ⟨b, 8, none⟩) G2 (.inl rfl) _)⟩
  unfold bindS
  rw [HBT.out]
  exact H3'.out
theorem bindsC (b : Nat) (mac : M6) (s : St) (m : Ls) (sv now : Int) (w : World) (h : IsC w b mac s) (hs : s.ok) (h0 : 0 ≤ now) (h1 : now ≤ 1152921504606846976) :
    Calls Try.prog 35 #[.pointer (some ⟨b, 0, none⟩), .agg m.cs.toArray, .int .u32 sv, .int .i64 now] w fun e w' => e = .returned (.tuple #[]) ∧ IsC w' b mac (bindS s m sv now) ∧ w.grownBy w' (some b) := by
  obtain ⟨x, y, q1, q2, HM⟩ := bindL_cases m sv
  rcases q1 with ⟨a1, rfl⟩ | ⟨a1, rfl⟩
  · rcases q2 with ⟨a2, rfl⟩ | ⟨⟨a2, a3⟩, rfl⟩ | ⟨a2, rfl⟩
    · exact bindsC_x0 b mac s m _ now w h hs h0 h1 a1 a2 HM
    · exact bindsC_x1 b mac s m _ now w h hs h0 h1 a1 a2 a3 HM
    · exact bindsC_x2 b mac s m _ now w h hs h0 h1 a1 a2 HM
  · rcases q2 with ⟨a2, rfl⟩ | ⟨⟨a2, a3⟩, rfl⟩ | ⟨a2, rfl⟩
    · exact bindsC_m0 b mac s m _ now w h hs h0 h1 a1 a2 HM
    · exact bindsC_m1 b mac s m _ now w h hs h0 h1 a1 a2 a3 HM
    · exact bindsC_m2 b mac s m _ now w h hs h0 h1 a1 a2 HM
end Go.Proofs.Ytgdlghieifadhaa
