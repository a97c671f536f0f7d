/-
  The reference's client of a lease: it is told a message.
-/
import Derived.Test.YtgdlghieifadhaaLr4
import Derived.Test.YtgdlghieifadhaaLs6
set_option linter.unusedVariables false
namespace Go.Proofs.Ytgdlghieifadhaa
open Go.RowKit

def offerR (s : St) (m : Ls) (now : Int) : St := { s with st := 2, next := now + 40, tried := 1, offer := m }
set_option maxRecDepth 100000 in
set_option maxHeartbeats 3200000 in
theorem hearF_op (b : Nat) (mac : M6) (s : St) (m : Ls) (now draw : Int) (w : World) (h : IsRf w b mac s) (h0 : 0 ≤ now) (h1 : now ≤ 1152921504606846976)
    (a1 : m.op ≠ 2) :
    Calls Try.prog 21 #[.pointer (some ⟨b, 0, none⟩), .agg m.cs.toArray, .int .i64 now, .int .i64 draw] w fun e w' => DoesR w w' b mac s none e := by
  have M0 : Hid (Blk (w.alloc (.cells #[.int .i64 m.op, .int .u32 m.id, .int .u32 m.yours, .int .u8 m.cl.a, .int .u8 m.cl.b, .int .u8 m.cl.c, .int .u8 m.cl.d, .int .u8 m.cl.e, .int .u8 m.cl.f, .int .i64 m.ty, .int .u32 m.server, .int .u32 m.asked, .int .i64 m.time, .int .u32 m.mask, .int .u32 m.router, .int .u32 m.resolver] 27)) w.heap.size 27 m.cs.toArray) := Blk.new _ _ _
  have hb := Lib.hid (h.nx (al (rf w) (.cells #[.int .i64 m.op, .int .u32 m.id, .int .u32 m.yours, .int .u8 m.cl.a, .int .u8 m.cl.b, .int .u8 m.cl.c, .int .u8 m.cl.d, .int .u8 m.cl.e, .int .u8 m.cl.f, .int .i64 m.ty, .int .u32 m.server, .int .u32 m.asked, .int .i64 m.time, .int .u32 m.mask, .int .u32 m.router, .int .u32 m.resolver] 27)))
  have g0 : Hid (w.grownBy (w.alloc (.cells #[.int .i64 m.op, .int .u32 m.id, .int .u32 m.yours, .int .u8 m.cl.a, .int .u8 m.cl.b, .int .u8 m.cl.c, .int .u8 m.cl.d, .int .u8 m.cl.e, .int .u8 m.cl.f, .int .i64 m.ty, .int .u32 m.server, .int .u32 m.asked, .int .i64 m.time, .int .u32 m.mask, .int .u32 m.router, .int .u32 m.resolver] 27)) (some b)) := only_alloc (World.grownBy.refl _ _) _
  have hz : Hid (b < w.heap.size) := Blk.lt h
  have q1 : ((m.op : Int) != 2) = true := by rw [bne_iff_ne]; exact a1
  clear a1
  simp only [Ls.cs]
  go_enter Try.func21, Try.ntmps21
  go_wp2
  generalize w.alloc (.cells #[.int .i64 m.op, .int .u32 m.id, .int .u32 m.yours, .int .u8 m.cl.a, .int .u8 m.cl.b, .int .u8 m.cl.c, .int .u8 m.cl.d, .int .u8 m.cl.e, .int .u8 m.cl.f, .int .i64 m.ty, .int .u32 m.server, .int .u32 m.asked, .int .i64 m.time, .int .u32 m.mask, .int .u32 m.router, .int .u32 m.resolver] 27) = W at M0 hb g0 ⊢
  have d0 : W.cell? ⟨w.heap.size, 0, none⟩ = some (.int .i64 m.op) := Blk.cell M0.out 0
  have d1 : W.cell? ⟨w.heap.size, 1, none⟩ = some (.int .u32 m.id) := Blk.cell M0.out 1
  have d2 : W.cell? ⟨w.heap.size, 2, none⟩ = some (.int .u32 m.yours) := Blk.cell M0.out 2
  have d3 : W.cell? ⟨w.heap.size, 3, none⟩ = some (.int .u8 m.cl.a) := Blk.cell M0.out 3
  have d4 : W.cell? ⟨w.heap.size, 4, none⟩ = some (.int .u8 m.cl.b) := Blk.cell M0.out 4
  have d5 : W.cell? ⟨w.heap.size, 5, none⟩ = some (.int .u8 m.cl.c) := Blk.cell M0.out 5
  have d6 : W.cell? ⟨w.heap.size, 6, none⟩ = some (.int .u8 m.cl.d) := Blk.cell M0.out 6
  have d7 : W.cell? ⟨w.heap.size, 7, none⟩ = some (.int .u8 m.cl.e) := Blk.cell M0.out 7
  have d8 : W.cell? ⟨w.heap.size, 8, none⟩ = some (.int .u8 m.cl.f) := Blk.cell M0.out 8
  have d9 : W.cell? ⟨w.heap.size, 9, none⟩ = some (.int .i64 m.ty) := Blk.cell M0.out 9
  have d10 : W.cell? ⟨w.heap.size, 10, none⟩ = some (.int .u32 m.server) := Blk.cell M0.out 10
  have d11 : W.cell? ⟨w.heap.size, 11, none⟩ = some (.int .u32 m.asked) := Blk.cell M0.out 11
  have d12 : W.cell? ⟨w.heap.size, 12, none⟩ = some (.int .i64 m.time) := Blk.cell M0.out 12
  have d13 : W.cell? ⟨w.heap.size, 13, none⟩ = some (.int .u32 m.mask) := Blk.cell M0.out 13
  have d14 : W.cell? ⟨w.heap.size, 14, none⟩ = some (.int .u32 m.router) := Blk.cell M0.out 14
  have d15 : W.cell? ⟨w.heap.size, 15, none⟩ = some (.int .u32 m.resolver) := Blk.cell M0.out 15
  have c0 : W.cell? ⟨b, 0, none⟩ = some (.int .u8 mac.a) := Blk.cell hb.out 0
  have c1 : W.cell? ⟨b, 1, none⟩ = some (.int .u8 mac.b) := Blk.cell hb.out 1
  have c2 : W.cell? ⟨b, 2, none⟩ = some (.int .u8 mac.c) := Blk.cell hb.out 2
  have c3 : W.cell? ⟨b, 3, none⟩ = some (.int .u8 mac.d) := Blk.cell hb.out 3
  have c4 : W.cell? ⟨b, 4, none⟩ = some (.int .u8 mac.e) := Blk.cell hb.out 4
  have c5 : W.cell? ⟨b, 5, none⟩ = some (.int .u8 mac.f) := Blk.cell hb.out 5
  have c6 : W.cell? ⟨b, 6, none⟩ = some (.int .i64 s.st) := Blk.cell hb.out 6
  have c7 : W.cell? ⟨b, 7, none⟩ = some (.int .u32 s.id) := Blk.cell hb.out 7
  have c12 : W.cell? ⟨b, 12, none⟩ = some (.int .u32 s.offer.yours) := Blk.cell hb.out 12
  have c20 : W.cell? ⟨b, 20, none⟩ = some (.int .u32 s.offer.server) := Blk.cell hb.out 20
  have c28 : W.cell? ⟨b, 28, none⟩ = some (.int .u32 s.lease.yours) := Blk.cell hb.out 28
  have c36 : W.cell? ⟨b, 36, none⟩ = some (.int .u32 s.lease.server) := Blk.cell hb.out 36
  go_quiet (fail)
  go_wp2
  go_ret
  exact ⟨_, rfl, rfl, (by exact hb.out), (by repeat' (first | exact g0.out | refine only_drewN ?_ _))⟩
set_option maxRecDepth 100000 in
set_option maxHeartbeats 3200000 in
theorem hearF_id (b : Nat) (mac : M6) (s : St) (m : Ls) (now draw : Int) (w : World) (h : IsRf w b mac s) (h0 : 0 ≤ now) (h1 : now ≤ 1152921504606846976)
    (a1 : m.op = 2) (a2 : m.id ≠ s.id) :
    Calls Try.prog 21 #[.pointer (some ⟨b, 0, none⟩), .agg m.cs.toArray, .int .i64 now, .int .i64 draw] w fun e w' => DoesR w w' b mac s none e := by
  have M0 : Hid (Blk (w.alloc (.cells #[.int .i64 m.op, .int .u32 m.id, .int .u32 m.yours, .int .u8 m.cl.a, .int .u8 m.cl.b, .int .u8 m.cl.c, .int .u8 m.cl.d, .int .u8 m.cl.e, .int .u8 m.cl.f, .int .i64 m.ty, .int .u32 m.server, .int .u32 m.asked, .int .i64 m.time, .int .u32 m.mask, .int .u32 m.router, .int .u32 m.resolver] 27)) w.heap.size 27 m.cs.toArray) := Blk.new _ _ _
  have hb := Lib.hid (h.nx (al (rf w) (.cells #[.int .i64 m.op, .int .u32 m.id, .int .u32 m.yours, .int .u8 m.cl.a, .int .u8 m.cl.b, .int .u8 m.cl.c, .int .u8 m.cl.d, .int .u8 m.cl.e, .int .u8 m.cl.f, .int .i64 m.ty, .int .u32 m.server, .int .u32 m.asked, .int .i64 m.time, .int .u32 m.mask, .int .u32 m.router, .int .u32 m.resolver] 27)))
  have g0 : Hid (w.grownBy (w.alloc (.cells #[.int .i64 m.op, .int .u32 m.id, .int .u32 m.yours, .int .u8 m.cl.a, .int .u8 m.cl.b, .int .u8 m.cl.c, .int .u8 m.cl.d, .int .u8 m.cl.e, .int .u8 m.cl.f, .int .i64 m.ty, .int .u32 m.server, .int .u32 m.asked, .int .i64 m.time, .int .u32 m.mask, .int .u32 m.router, .int .u32 m.resolver] 27)) (some b)) := only_alloc (World.grownBy.refl _ _) _
  have hz : Hid (b < w.heap.size) := Blk.lt h
  have q1 : ((m.op : Int) != 2) = false := by rw [bne_eq_false_iff_eq]; exact a1
  have q2 : ((m.id : Int) != s.id) = true := by rw [bne_iff_ne]; exact a2
  clear a1 a2
  simp only [Ls.cs]
  go_enter Try.func21, Try.ntmps21
  go_wp2
  generalize w.alloc (.cells #[.int .i64 m.op, .int .u32 m.id, .int .u32 m.yours, .int .u8 m.cl.a, .int .u8 m.cl.b, .int .u8 m.cl.c, .int .u8 m.cl.d, .int .u8 m.cl.e, .int .u8 m.cl.f, .int .i64 m.ty, .int .u32 m.server, .int .u32 m.asked, .int .i64 m.time, .int .u32 m.mask, .int .u32 m.router, .int .u32 m.resolver] 27) = W at M0 hb g0 ⊢
  have d0 : W.cell? ⟨w.heap.size, 0, none⟩ = some (.int .i64 m.op) := Blk.cell M0.out 0
  have d1 : W.cell? ⟨w.heap.size, 1, none⟩ = some (.int .u32 m.id) := Blk.cell M0.out 1
  have d2 : W.cell? ⟨w.heap.size, 2, none⟩ = some (.int .u32 m.yours) := Blk.cell M0.out 2
  have d3 : W.cell? ⟨w.heap.size, 3, none⟩ = some (.int .u8 m.cl.a) := Blk.cell M0.out 3
  have d4 : W.cell? ⟨w.heap.size, 4, none⟩ = some (.int .u8 m.cl.b) := Blk.cell M0.out 4
  have d5 : W.cell? ⟨w.heap.size, 5, none⟩ = some (.int .u8 m.cl.c) := Blk.cell M0.out 5
  have d6 : W.cell? ⟨w.heap.size, 6, none⟩ = some (.int .u8 m.cl.d) := Blk.cell M0.out 6
  have d7 : W.cell? ⟨w.heap.size, 7, none⟩ = some (.int .u8 m.cl.e) := Blk.cell M0.out 7
  have d8 : W.cell? ⟨w.heap.size, 8, none⟩ = some (.int .u8 m.cl.f) := Blk.cell M0.out 8
  have d9 : W.cell? ⟨w.heap.size, 9, none⟩ = some (.int .i64 m.ty) := Blk.cell M0.out 9
  have d10 : W.cell? ⟨w.heap.size, 10, none⟩ = some (.int .u32 m.server) := Blk.cell M0.out 10
  have d11 : W.cell? ⟨w.heap.size, 11, none⟩ = some (.int .u32 m.asked) := Blk.cell M0.out 11
  have d12 : W.cell? ⟨w.heap.size, 12, none⟩ = some (.int .i64 m.time) := Blk.cell M0.out 12
  have d13 : W.cell? ⟨w.heap.size, 13, none⟩ = some (.int .u32 m.mask) := Blk.cell M0.out 13
  have d14 : W.cell? ⟨w.heap.size, 14, none⟩ = some (.int .u32 m.router) := Blk.cell M0.out 14
  have d15 : W.cell? ⟨w.heap.size, 15, none⟩ = some (.int .u32 m.resolver) := Blk.cell M0.out 15
  have c0 : W.cell? ⟨b, 0, none⟩ = some (.int .u8 mac.a) := Blk.cell hb.out 0
  have c1 : W.cell? ⟨b, 1, none⟩ = some (.int .u8 mac.b) := Blk.cell hb.out 1
  have c2 : W.cell? ⟨b, 2, none⟩ = some (.int .u8 mac.c) := Blk.cell hb.out 2
  have c3 : W.cell? ⟨b, 3, none⟩ = some (.int .u8 mac.d) := Blk.cell hb.out 3
  have c4 : W.cell? ⟨b, 4, none⟩ = some (.int .u8 mac.e) := Blk.cell hb.out 4
  have c5 : W.cell? ⟨b, 5, none⟩ = some (.int .u8 mac.f) := Blk.cell hb.out 5
  have c6 : W.cell? ⟨b, 6, none⟩ = some (.int .i64 s.st) := Blk.cell hb.out 6
  have c7 : W.cell? ⟨b, 7, none⟩ = some (.int .u32 s.id) := Blk.cell hb.out 7
  have c12 : W.cell? ⟨b, 12, none⟩ = some (.int .u32 s.offer.yours) := Blk.cell hb.out 12
  have c20 : W.cell? ⟨b, 20, none⟩ = some (.int .u32 s.offer.server) := Blk.cell hb.out 20
  have c28 : W.cell? ⟨b, 28, none⟩ = some (.int .u32 s.lease.yours) := Blk.cell hb.out 28
  have c36 : W.cell? ⟨b, 36, none⟩ = some (.int .u32 s.lease.server) := Blk.cell hb.out 36
  go_quiet (fail)
  go_wp2
  go_ret
  exact ⟨_, rfl, rfl, (by exact hb.out), (by repeat' (first | exact g0.out | refine only_drewN ?_ _))⟩
set_option maxRecDepth 100000 in
set_option maxHeartbeats 3200000 in
theorem hearF_mac (b : Nat) (mac : M6) (s : St) (m : Ls) (now draw : Int) (w : World) (h : IsRf w b mac s) (h0 : 0 ≤ now) (h1 : now ≤ 1152921504606846976)
    (a1 : m.op = 2) (a2 : m.id = s.id) (a3 : (m.cl.l != mac.l) = true) :
    Calls Try.prog 21 #[.pointer (some ⟨b, 0, none⟩), .agg m.cs.toArray, .int .i64 now, .int .i64 draw] w fun e w' => DoesR w w' b mac s none e := by
  have M0 : Hid (Blk (w.alloc (.cells #[.int .i64 m.op, .int .u32 m.id, .int .u32 m.yours, .int .u8 m.cl.a, .int .u8 m.cl.b, .int .u8 m.cl.c, .int .u8 m.cl.d, .int .u8 m.cl.e, .int .u8 m.cl.f, .int .i64 m.ty, .int .u32 m.server, .int .u32 m.asked, .int .i64 m.time, .int .u32 m.mask, .int .u32 m.router, .int .u32 m.resolver] 27)) w.heap.size 27 m.cs.toArray) := Blk.new _ _ _
  have hb := Lib.hid (h.nx (al (rf w) (.cells #[.int .i64 m.op, .int .u32 m.id, .int .u32 m.yours, .int .u8 m.cl.a, .int .u8 m.cl.b, .int .u8 m.cl.c, .int .u8 m.cl.d, .int .u8 m.cl.e, .int .u8 m.cl.f, .int .i64 m.ty, .int .u32 m.server, .int .u32 m.asked, .int .i64 m.time, .int .u32 m.mask, .int .u32 m.router, .int .u32 m.resolver] 27)))
  have g0 : Hid (w.grownBy (w.alloc (.cells #[.int .i64 m.op, .int .u32 m.id, .int .u32 m.yours, .int .u8 m.cl.a, .int .u8 m.cl.b, .int .u8 m.cl.c, .int .u8 m.cl.d, .int .u8 m.cl.e, .int .u8 m.cl.f, .int .i64 m.ty, .int .u32 m.server, .int .u32 m.asked, .int .i64 m.time, .int .u32 m.mask, .int .u32 m.router, .int .u32 m.resolver] 27)) (some b)) := only_alloc (World.grownBy.refl _ _) _
  have hz : Hid (b < w.heap.size) := Blk.lt h
  have q1 : ((m.op : Int) != 2) = false := by rw [bne_eq_false_iff_eq]; exact a1
  have q2 : ((m.id : Int) != s.id) = false := by rw [bne_eq_false_iff_eq]; exact a2
  have q3 := neq_m6 m.cl mac true a3
  clear a1 a2 a3
  simp only [Ls.cs]
  go_enter Try.func21, Try.ntmps21
  go_wp2
  generalize w.alloc (.cells #[.int .i64 m.op, .int .u32 m.id, .int .u32 m.yours, .int .u8 m.cl.a, .int .u8 m.cl.b, .int .u8 m.cl.c, .int .u8 m.cl.d, .int .u8 m.cl.e, .int .u8 m.cl.f, .int .i64 m.ty, .int .u32 m.server, .int .u32 m.asked, .int .i64 m.time, .int .u32 m.mask, .int .u32 m.router, .int .u32 m.resolver] 27) = W at M0 hb g0 ⊢
  have d0 : W.cell? ⟨w.heap.size, 0, none⟩ = some (.int .i64 m.op) := Blk.cell M0.out 0
  have d1 : W.cell? ⟨w.heap.size, 1, none⟩ = some (.int .u32 m.id) := Blk.cell M0.out 1
  have d2 : W.cell? ⟨w.heap.size, 2, none⟩ = some (.int .u32 m.yours) := Blk.cell M0.out 2
  have d3 : W.cell? ⟨w.heap.size, 3, none⟩ = some (.int .u8 m.cl.a) := Blk.cell M0.out 3
  have d4 : W.cell? ⟨w.heap.size, 4, none⟩ = some (.int .u8 m.cl.b) := Blk.cell M0.out 4
  have d5 : W.cell? ⟨w.heap.size, 5, none⟩ = some (.int .u8 m.cl.c) := Blk.cell M0.out 5
  have d6 : W.cell? ⟨w.heap.size, 6, none⟩ = some (.int .u8 m.cl.d) := Blk.cell M0.out 6
  have d7 : W.cell? ⟨w.heap.size, 7, none⟩ = some (.int .u8 m.cl.e) := Blk.cell M0.out 7
  have d8 : W.cell? ⟨w.heap.size, 8, none⟩ = some (.int .u8 m.cl.f) := Blk.cell M0.out 8
  have d9 : W.cell? ⟨w.heap.size, 9, none⟩ = some (.int .i64 m.ty) := Blk.cell M0.out 9
  have d10 : W.cell? ⟨w.heap.size, 10, none⟩ = some (.int .u32 m.server) := Blk.cell M0.out 10
  have d11 : W.cell? ⟨w.heap.size, 11, none⟩ = some (.int .u32 m.asked) := Blk.cell M0.out 11
  have d12 : W.cell? ⟨w.heap.size, 12, none⟩ = some (.int .i64 m.time) := Blk.cell M0.out 12
  have d13 : W.cell? ⟨w.heap.size, 13, none⟩ = some (.int .u32 m.mask) := Blk.cell M0.out 13
  have d14 : W.cell? ⟨w.heap.size, 14, none⟩ = some (.int .u32 m.router) := Blk.cell M0.out 14
  have d15 : W.cell? ⟨w.heap.size, 15, none⟩ = some (.int .u32 m.resolver) := Blk.cell M0.out 15
  have c0 : W.cell? ⟨b, 0, none⟩ = some (.int .u8 mac.a) := Blk.cell hb.out 0
  have c1 : W.cell? ⟨b, 1, none⟩ = some (.int .u8 mac.b) := Blk.cell hb.out 1
  have c2 : W.cell? ⟨b, 2, none⟩ = some (.int .u8 mac.c) := Blk.cell hb.out 2
  have c3 : W.cell? ⟨b, 3, none⟩ = some (.int .u8 mac.d) := Blk.cell hb.out 3
  have c4 : W.cell? ⟨b, 4, none⟩ = some (.int .u8 mac.e) := Blk.cell hb.out 4
  have c5 : W.cell? ⟨b, 5, none⟩ = some (.int .u8 mac.f) := Blk.cell hb.out 5
  have c6 : W.cell? ⟨b, 6, none⟩ = some (.int .i64 s.st) := Blk.cell hb.out 6
  have c7 : W.cell? ⟨b, 7, none⟩ = some (.int .u32 s.id) := Blk.cell hb.out 7
  have c12 : W.cell? ⟨b, 12, none⟩ = some (.int .u32 s.offer.yours) := Blk.cell hb.out 12
  have c20 : W.cell? ⟨b, 20, none⟩ = some (.int .u32 s.offer.server) := Blk.cell hb.out 20
  have c28 : W.cell? ⟨b, 28, none⟩ = some (.int .u32 s.lease.yours) := Blk.cell hb.out 28
  have c36 : W.cell? ⟨b, 36, none⟩ = some (.int .u32 s.lease.server) := Blk.cell hb.out 36
  go_quiet (fail)
  go_wp2
  go_ret
  exact ⟨_, rfl, rfl, (by exact hb.out), (by repeat' (first | exact g0.out | refine only_drewN ?_ _))⟩
set_option maxRecDepth 100000 in
set_option maxHeartbeats 3200000 in
theorem hearF_still (b : Nat) (mac : M6) (s : St) (m : Ls) (now draw : Int) (w : World) (h : IsRf w b mac s) (h0 : 0 ≤ now) (h1 : now ≤ 1152921504606846976)
    (a1 : m.op = 2) (a2 : m.id = s.id) (a3 : (m.cl.l != mac.l) = false) (e1 : s.st ≠ 1) (e2 : s.st ≠ 2) (e4 : s.st ≠ 4) (e5 : s.st ≠ 5) :
    Calls Try.prog 21 #[.pointer (some ⟨b, 0, none⟩), .agg m.cs.toArray, .int .i64 now, .int .i64 draw] w fun e w' => DoesR w w' b mac s none e := by
  have M0 : Hid (Blk (w.alloc (.cells #[.int .i64 m.op, .int .u32 m.id, .int .u32 m.yours, .int .u8 m.cl.a, .int .u8 m.cl.b, .int .u8 m.cl.c, .int .u8 m.cl.d, .int .u8 m.cl.e, .int .u8 m.cl.f, .int .i64 m.ty, .int .u32 m.server, .int .u32 m.asked, .int .i64 m.time, .int .u32 m.mask, .int .u32 m.router, .int .u32 m.resolver] 27)) w.heap.size 27 m.cs.toArray) := Blk.new _ _ _
  have hb := Lib.hid (h.nx (al (rf w) (.cells #[.int .i64 m.op, .int .u32 m.id, .int .u32 m.yours, .int .u8 m.cl.a, .int .u8 m.cl.b, .int .u8 m.cl.c, .int .u8 m.cl.d, .int .u8 m.cl.e, .int .u8 m.cl.f, .int .i64 m.ty, .int .u32 m.server, .int .u32 m.asked, .int .i64 m.time, .int .u32 m.mask, .int .u32 m.router, .int .u32 m.resolver] 27)))
  have g0 : Hid (w.grownBy (w.alloc (.cells #[.int .i64 m.op, .int .u32 m.id, .int .u32 m.yours, .int .u8 m.cl.a, .int .u8 m.cl.b, .int .u8 m.cl.c, .int .u8 m.cl.d, .int .u8 m.cl.e, .int .u8 m.cl.f, .int .i64 m.ty, .int .u32 m.server, .int .u32 m.asked, .int .i64 m.time, .int .u32 m.mask, .int .u32 m.router, .int .u32 m.resolver] 27)) (some b)) := only_alloc (World.grownBy.refl _ _) _
  have hz : Hid (b < w.heap.size) := Blk.lt h
  have q1 : ((m.op : Int) != 2) = false := by rw [bne_eq_false_iff_eq]; exact a1
  have q2 : ((m.id : Int) != s.id) = false := by rw [bne_eq_false_iff_eq]; exact a2
  have q3 := neq_m6 m.cl mac false a3
  clear a1 a2 a3
  have p1 : ((s.st : Int) == 1) = false := by rw [beq_eq_false_iff_ne]; exact e1
  have p2 : ((s.st : Int) == 2) = false := by rw [beq_eq_false_iff_ne]; exact e2
  have p4 : ((s.st : Int) == 4) = false := by rw [beq_eq_false_iff_ne]; exact e4
  have p5 : ((s.st : Int) == 5) = false := by rw [beq_eq_false_iff_ne]; exact e5
  clear e1 e2 e4 e5
  simp only [Ls.cs]
  go_enter Try.func21, Try.ntmps21
  go_wp2
  generalize w.alloc (.cells #[.int .i64 m.op, .int .u32 m.id, .int .u32 m.yours, .int .u8 m.cl.a, .int .u8 m.cl.b, .int .u8 m.cl.c, .int .u8 m.cl.d, .int .u8 m.cl.e, .int .u8 m.cl.f, .int .i64 m.ty, .int .u32 m.server, .int .u32 m.asked, .int .i64 m.time, .int .u32 m.mask, .int .u32 m.router, .int .u32 m.resolver] 27) = W at M0 hb g0 ⊢
  have d0 : W.cell? ⟨w.heap.size, 0, none⟩ = some (.int .i64 m.op) := Blk.cell M0.out 0
  have d1 : W.cell? ⟨w.heap.size, 1, none⟩ = some (.int .u32 m.id) := Blk.cell M0.out 1
  have d2 : W.cell? ⟨w.heap.size, 2, none⟩ = some (.int .u32 m.yours) := Blk.cell M0.out 2
  have d3 : W.cell? ⟨w.heap.size, 3, none⟩ = some (.int .u8 m.cl.a) := Blk.cell M0.out 3
  have d4 : W.cell? ⟨w.heap.size, 4, none⟩ = some (.int .u8 m.cl.b) := Blk.cell M0.out 4
  have d5 : W.cell? ⟨w.heap.size, 5, none⟩ = some (.int .u8 m.cl.c) := Blk.cell M0.out 5
  have d6 : W.cell? ⟨w.heap.size, 6, none⟩ = some (.int .u8 m.cl.d) := Blk.cell M0.out 6
  have d7 : W.cell? ⟨w.heap.size, 7, none⟩ = some (.int .u8 m.cl.e) := Blk.cell M0.out 7
  have d8 : W.cell? ⟨w.heap.size, 8, none⟩ = some (.int .u8 m.cl.f) := Blk.cell M0.out 8
  have d9 : W.cell? ⟨w.heap.size, 9, none⟩ = some (.int .i64 m.ty) := Blk.cell M0.out 9
  have d10 : W.cell? ⟨w.heap.size, 10, none⟩ = some (.int .u32 m.server) := Blk.cell M0.out 10
  have d11 : W.cell? ⟨w.heap.size, 11, none⟩ = some (.int .u32 m.asked) := Blk.cell M0.out 11
  have d12 : W.cell? ⟨w.heap.size, 12, none⟩ = some (.int .i64 m.time) := Blk.cell M0.out 12
  have d13 : W.cell? ⟨w.heap.size, 13, none⟩ = some (.int .u32 m.mask) := Blk.cell M0.out 13
  have d14 : W.cell? ⟨w.heap.size, 14, none⟩ = some (.int .u32 m.router) := Blk.cell M0.out 14
  have d15 : W.cell? ⟨w.heap.size, 15, none⟩ = some (.int .u32 m.resolver) := Blk.cell M0.out 15
  have c0 : W.cell? ⟨b, 0, none⟩ = some (.int .u8 mac.a) := Blk.cell hb.out 0
  have c1 : W.cell? ⟨b, 1, none⟩ = some (.int .u8 mac.b) := Blk.cell hb.out 1
  have c2 : W.cell? ⟨b, 2, none⟩ = some (.int .u8 mac.c) := Blk.cell hb.out 2
  have c3 : W.cell? ⟨b, 3, none⟩ = some (.int .u8 mac.d) := Blk.cell hb.out 3
  have c4 : W.cell? ⟨b, 4, none⟩ = some (.int .u8 mac.e) := Blk.cell hb.out 4
  have c5 : W.cell? ⟨b, 5, none⟩ = some (.int .u8 mac.f) := Blk.cell hb.out 5
  have c6 : W.cell? ⟨b, 6, none⟩ = some (.int .i64 s.st) := Blk.cell hb.out 6
  have c7 : W.cell? ⟨b, 7, none⟩ = some (.int .u32 s.id) := Blk.cell hb.out 7
  have c12 : W.cell? ⟨b, 12, none⟩ = some (.int .u32 s.offer.yours) := Blk.cell hb.out 12
  have c20 : W.cell? ⟨b, 20, none⟩ = some (.int .u32 s.offer.server) := Blk.cell hb.out 20
  have c28 : W.cell? ⟨b, 28, none⟩ = some (.int .u32 s.lease.yours) := Blk.cell hb.out 28
  have c36 : W.cell? ⟨b, 36, none⟩ = some (.int .u32 s.lease.server) := Blk.cell hb.out 36
  go_quiet (fail)
  go_wp2
  go_ret
  exact ⟨_, rfl, rfl, (by exact hb.out), (by repeat' (first | exact g0.out | refine only_drewN ?_ _))⟩
set_option maxRecDepth 100000 in
set_option maxHeartbeats 3200000 in
theorem hearF_1t (b : Nat) (mac : M6) (s : St) (m : Ls) (now draw : Int) (w : World) (h : IsRf w b mac s) (h0 : 0 ≤ now) (h1 : now ≤ 1152921504606846976)
    (a1 : m.op = 2) (a2 : m.id = s.id) (a3 : (m.cl.l != mac.l) = false) (e1 : s.st = 1) (f1 : m.ty ≠ 2) :
    Calls Try.prog 21 #[.pointer (some ⟨b, 0, none⟩), .agg m.cs.toArray, .int .i64 now, .int .i64 draw] w fun e w' => DoesR w w' b mac s none e := by
  have M0 : Hid (Blk (w.alloc (.cells #[.int .i64 m.op, .int .u32 m.id, .int .u32 m.yours, .int .u8 m.cl.a, .int .u8 m.cl.b, .int .u8 m.cl.c, .int .u8 m.cl.d, .int .u8 m.cl.e, .int .u8 m.cl.f, .int .i64 m.ty, .int .u32 m.server, .int .u32 m.asked, .int .i64 m.time, .int .u32 m.mask, .int .u32 m.router, .int .u32 m.resolver] 27)) w.heap.size 27 m.cs.toArray) := Blk.new _ _ _
  have hb := Lib.hid (h.nx (al (rf w) (.cells #[.int .i64 m.op, .int .u32 m.id, .int .u32 m.yours, .int .u8 m.cl.a, .int .u8 m.cl.b, .int .u8 m.cl.c, .int .u8 m.cl.d, .int .u8 m.cl.e, .int .u8 m.cl.f, .int .i64 m.ty, .int .u32 m.server, .int .u32 m.asked, .int .i64 m.time, .int .u32 m.mask, .int .u32 m.router, .int .u32 m.resolver] 27)))
  have g0 : Hid (w.grownBy (w.alloc (.cells #[.int .i64 m.op, .int .u32 m.id, .int .u32 m.yours, .int .u8 m.cl.a, .int .u8 m.cl.b, .int .u8 m.cl.c, .int .u8 m.cl.d, .int .u8 m.cl.e, .int .u8 m.cl.f, .int .i64 m.ty, .int .u32 m.server, .int .u32 m.asked, .int .i64 m.time, .int .u32 m.mask, .int .u32 m.router, .int .u32 m.resolver] 27)) (some b)) := only_alloc (World.grownBy.refl _ _) _
  have hz : Hid (b < w.heap.size) := Blk.lt h
  have q1 : ((m.op : Int) != 2) = false := by rw [bne_eq_false_iff_eq]; exact a1
  have q2 : ((m.id : Int) != s.id) = false := by rw [bne_eq_false_iff_eq]; exact a2
  have q3 := neq_m6 m.cl mac false a3
  clear a1 a2 a3
  have p1 : ((s.st : Int) == 1) = true := by rw [beq_iff_eq]; exact e1
  have p2 : ((s.st : Int) == 2) = false := by rw [beq_eq_false_iff_ne]; exact (by omega)
  have p4 : ((s.st : Int) == 4) = false := by rw [beq_eq_false_iff_ne]; exact (by omega)
  have p5 : ((s.st : Int) == 5) = false := by rw [beq_eq_false_iff_ne]; exact (by omega)
  clear e1
  have r1 : ((m.ty : Int) == 2) = false := by rw [beq_eq_false_iff_ne]; exact f1
  clear f1
  simp only [Ls.cs]
  go_enter Try.func21, Try.ntmps21
  go_wp2
  generalize w.alloc (.cells #[.int .i64 m.op, .int .u32 m.id, .int .u32 m.yours, .int .u8 m.cl.a, .int .u8 m.cl.b, .int .u8 m.cl.c, .int .u8 m.cl.d, .int .u8 m.cl.e, .int .u8 m.cl.f, .int .i64 m.ty, .int .u32 m.server, .int .u32 m.asked, .int .i64 m.time, .int .u32 m.mask, .int .u32 m.router, .int .u32 m.resolver] 27) = W at M0 hb g0 ⊢
  have d0 : W.cell? ⟨w.heap.size, 0, none⟩ = some (.int .i64 m.op) := Blk.cell M0.out 0
  have d1 : W.cell? ⟨w.heap.size, 1, none⟩ = some (.int .u32 m.id) := Blk.cell M0.out 1
  have d2 : W.cell? ⟨w.heap.size, 2, none⟩ = some (.int .u32 m.yours) := Blk.cell M0.out 2
  have d3 : W.cell? ⟨w.heap.size, 3, none⟩ = some (.int .u8 m.cl.a) := Blk.cell M0.out 3
  have d4 : W.cell? ⟨w.heap.size, 4, none⟩ = some (.int .u8 m.cl.b) := Blk.cell M0.out 4
  have d5 : W.cell? ⟨w.heap.size, 5, none⟩ = some (.int .u8 m.cl.c) := Blk.cell M0.out 5
  have d6 : W.cell? ⟨w.heap.size, 6, none⟩ = some (.int .u8 m.cl.d) := Blk.cell M0.out 6
  have d7 : W.cell? ⟨w.heap.size, 7, none⟩ = some (.int .u8 m.cl.e) := Blk.cell M0.out 7
  have d8 : W.cell? ⟨w.heap.size, 8, none⟩ = some (.int .u8 m.cl.f) := Blk.cell M0.out 8
  have d9 : W.cell? ⟨w.heap.size, 9, none⟩ = some (.int .i64 m.ty) := Blk.cell M0.out 9
  have d10 : W.cell? ⟨w.heap.size, 10, none⟩ = some (.int .u32 m.server) := Blk.cell M0.out 10
  have d11 : W.cell? ⟨w.heap.size, 11, none⟩ = some (.int .u32 m.asked) := Blk.cell M0.out 11
  have d12 : W.cell? ⟨w.heap.size, 12, none⟩ = some (.int .i64 m.time) := Blk.cell M0.out 12
  have d13 : W.cell? ⟨w.heap.size, 13, none⟩ = some (.int .u32 m.mask) := Blk.cell M0.out 13
  have d14 : W.cell? ⟨w.heap.size, 14, none⟩ = some (.int .u32 m.router) := Blk.cell M0.out 14
  have d15 : W.cell? ⟨w.heap.size, 15, none⟩ = some (.int .u32 m.resolver) := Blk.cell M0.out 15
  have c0 : W.cell? ⟨b, 0, none⟩ = some (.int .u8 mac.a) := Blk.cell hb.out 0
  have c1 : W.cell? ⟨b, 1, none⟩ = some (.int .u8 mac.b) := Blk.cell hb.out 1
  have c2 : W.cell? ⟨b, 2, none⟩ = some (.int .u8 mac.c) := Blk.cell hb.out 2
  have c3 : W.cell? ⟨b, 3, none⟩ = some (.int .u8 mac.d) := Blk.cell hb.out 3
  have c4 : W.cell? ⟨b, 4, none⟩ = some (.int .u8 mac.e) := Blk.cell hb.out 4
  have c5 : W.cell? ⟨b, 5, none⟩ = some (.int .u8 mac.f) := Blk.cell hb.out 5
  have c6 : W.cell? ⟨b, 6, none⟩ = some (.int .i64 s.st) := Blk.cell hb.out 6
  have c7 : W.cell? ⟨b, 7, none⟩ = some (.int .u32 s.id) := Blk.cell hb.out 7
  have c12 : W.cell? ⟨b, 12, none⟩ = some (.int .u32 s.offer.yours) := Blk.cell hb.out 12
  have c20 : W.cell? ⟨b, 20, none⟩ = some (.int .u32 s.offer.server) := Blk.cell hb.out 20
  have c28 : W.cell? ⟨b, 28, none⟩ = some (.int .u32 s.lease.yours) := Blk.cell hb.out 28
  have c36 : W.cell? ⟨b, 36, none⟩ = some (.int .u32 s.lease.server) := Blk.cell hb.out 36
  go_quiet (fail)
  go_wp2
  go_ret
  exact ⟨_, rfl, rfl, (by exact hb.out), (by repeat' (first | exact g0.out | refine only_drewN ?_ _))⟩
set_option maxRecDepth 100000 in
set_option maxHeartbeats 3200000 in
theorem hearF_1y (b : Nat) (mac : M6) (s : St) (m : Ls) (now draw : Int) (w : World) (h : IsRf w b mac s) (h0 : 0 ≤ now) (h1 : now ≤ 1152921504606846976)
    (a1 : m.op = 2) (a2 : m.id = s.id) (a3 : (m.cl.l != mac.l) = false) (e1 : s.st = 1) (f1 : m.ty = 2) (f2 : m.yours = 0) :
    Calls Try.prog 21 #[.pointer (some ⟨b, 0, none⟩), .agg m.cs.toArray, .int .i64 now, .int .i64 draw] w fun e w' => DoesR w w' b mac s none e := by
  have M0 : Hid (Blk (w.alloc (.cells #[.int .i64 m.op, .int .u32 m.id, .int .u32 m.yours, .int .u8 m.cl.a, .int .u8 m.cl.b, .int .u8 m.cl.c, .int .u8 m.cl.d, .int .u8 m.cl.e, .int .u8 m.cl.f, .int .i64 m.ty, .int .u32 m.server, .int .u32 m.asked, .int .i64 m.time, .int .u32 m.mask, .int .u32 m.router, .int .u32 m.resolver] 27)) w.heap.size 27 m.cs.toArray) := Blk.new _ _ _
  have hb := Lib.hid (h.nx (al (rf w) (.cells #[.int .i64 m.op, .int .u32 m.id, .int .u32 m.yours, .int .u8 m.cl.a, .int .u8 m.cl.b, .int .u8 m.cl.c, .int .u8 m.cl.d, .int .u8 m.cl.e, .int .u8 m.cl.f, .int .i64 m.ty, .int .u32 m.server, .int .u32 m.asked, .int .i64 m.time, .int .u32 m.mask, .int .u32 m.router, .int .u32 m.resolver] 27)))
  have g0 : Hid (w.grownBy (w.alloc (.cells #[.int .i64 m.op, .int .u32 m.id, .int .u32 m.yours, .int .u8 m.cl.a, .int .u8 m.cl.b, .int .u8 m.cl.c, .int .u8 m.cl.d, .int .u8 m.cl.e, .int .u8 m.cl.f, .int .i64 m.ty, .int .u32 m.server, .int .u32 m.asked, .int .i64 m.time, .int .u32 m.mask, .int .u32 m.router, .int .u32 m.resolver] 27)) (some b)) := only_alloc (World.grownBy.refl _ _) _
  have hz : Hid (b < w.heap.size) := Blk.lt h
  have q1 : ((m.op : Int) != 2) = false := by rw [bne_eq_false_iff_eq]; exact a1
  have q2 : ((m.id : Int) != s.id) = false := by rw [bne_eq_false_iff_eq]; exact a2
  have q3 := neq_m6 m.cl mac false a3
  clear a1 a2 a3
  have p1 : ((s.st : Int) == 1) = true := by rw [beq_iff_eq]; exact e1
  have p2 : ((s.st : Int) == 2) = false := by rw [beq_eq_false_iff_ne]; exact (by omega)
  have p4 : ((s.st : Int) == 4) = false := by rw [beq_eq_false_iff_ne]; exact (by omega)
  have p5 : ((s.st : Int) == 5) = false := by rw [beq_eq_false_iff_ne]; exact (by omega)
  clear e1
  have r1 : ((m.ty : Int) == 2) = true := by rw [beq_iff_eq]; exact f1
  have r2 : ((m.yours : Int) != 0) = false := by rw [bne_eq_false_iff_eq]; exact f2
  clear f1 f2
  simp only [Ls.cs]
  go_enter Try.func21, Try.ntmps21
  go_wp2
  generalize w.alloc (.cells #[.int .i64 m.op, .int .u32 m.id, .int .u32 m.yours, .int .u8 m.cl.a, .int .u8 m.cl.b, .int .u8 m.cl.c, .int .u8 m.cl.d, .int .u8 m.cl.e, .int .u8 m.cl.f, .int .i64 m.ty, .int .u32 m.server, .int .u32 m.asked, .int .i64 m.time, .int .u32 m.mask, .int .u32 m.router, .int .u32 m.resolver] 27) = W at M0 hb g0 ⊢
  have d0 : W.cell? ⟨w.heap.size, 0, none⟩ = some (.int .i64 m.op) := Blk.cell M0.out 0
  have d1 : W.cell? ⟨w.heap.size, 1, none⟩ = some (.int .u32 m.id) := Blk.cell M0.out 1
  have d2 : W.cell? ⟨w.heap.size, 2, none⟩ = some (.int .u32 m.yours) := Blk.cell M0.out 2
  have d3 : W.cell? ⟨w.heap.size, 3, none⟩ = some (.int .u8 m.cl.a) := Blk.cell M0.out 3
  have d4 : W.cell? ⟨w.heap.size, 4, none⟩ = some (.int .u8 m.cl.b) := Blk.cell M0.out 4
  have d5 : W.cell? ⟨w.heap.size, 5, none⟩ = some (.int .u8 m.cl.c) := Blk.cell M0.out 5
  have d6 : W.cell? ⟨w.heap.size, 6, none⟩ = some (.int .u8 m.cl.d) := Blk.cell M0.out 6
  have d7 : W.cell? ⟨w.heap.size, 7, none⟩ = some (.int .u8 m.cl.e) := Blk.cell M0.out 7
  have d8 : W.cell? ⟨w.heap.size, 8, none⟩ = some (.int .u8 m.cl.f) := Blk.cell M0.out 8
  have d9 : W.cell? ⟨w.heap.size, 9, none⟩ = some (.int .i64 m.ty) := Blk.cell M0.out 9
  have d10 : W.cell? ⟨w.heap.size, 10, none⟩ = some (.int .u32 m.server) := Blk.cell M0.out 10
  have d11 : W.cell? ⟨w.heap.size, 11, none⟩ = some (.int .u32 m.asked) := Blk.cell M0.out 11
  have d12 : W.cell? ⟨w.heap.size, 12, none⟩ = some (.int .i64 m.time) := Blk.cell M0.out 12
  have d13 : W.cell? ⟨w.heap.size, 13, none⟩ = some (.int .u32 m.mask) := Blk.cell M0.out 13
  have d14 : W.cell? ⟨w.heap.size, 14, none⟩ = some (.int .u32 m.router) := Blk.cell M0.out 14
  have d15 : W.cell? ⟨w.heap.size, 15, none⟩ = some (.int .u32 m.resolver) := Blk.cell M0.out 15
  have c0 : W.cell? ⟨b, 0, none⟩ = some (.int .u8 mac.a) := Blk.cell hb.out 0
  have c1 : W.cell? ⟨b, 1, none⟩ = some (.int .u8 mac.b) := Blk.cell hb.out 1
  have c2 : W.cell? ⟨b, 2, none⟩ = some (.int .u8 mac.c) := Blk.cell hb.out 2
  have c3 : W.cell? ⟨b, 3, none⟩ = some (.int .u8 mac.d) := Blk.cell hb.out 3
  have c4 : W.cell? ⟨b, 4, none⟩ = some (.int .u8 mac.e) := Blk.cell hb.out 4
  have c5 : W.cell? ⟨b, 5, none⟩ = some (.int .u8 mac.f) := Blk.cell hb.out 5
  have c6 : W.cell? ⟨b, 6, none⟩ = some (.int .i64 s.st) := Blk.cell hb.out 6
  have c7 : W.cell? ⟨b, 7, none⟩ = some (.int .u32 s.id) := Blk.cell hb.out 7
  have c12 : W.cell? ⟨b, 12, none⟩ = some (.int .u32 s.offer.yours) := Blk.cell hb.out 12
  have c20 : W.cell? ⟨b, 20, none⟩ = some (.int .u32 s.offer.server) := Blk.cell hb.out 20
  have c28 : W.cell? ⟨b, 28, none⟩ = some (.int .u32 s.lease.yours) := Blk.cell hb.out 28
  have c36 : W.cell? ⟨b, 36, none⟩ = some (.int .u32 s.lease.server) := Blk.cell hb.out 36
  go_quiet (fail)
  go_wp2
  go_ret
  exact ⟨_, rfl, rfl, (by exact hb.out), (by repeat' (first | exact g0.out | refine only_drewN ?_ _))⟩
set_option maxRecDepth 100000 in
set_option maxHeartbeats 3200000 in
theorem hearF_1s (b : Nat) (mac : M6) (s : St) (m : Ls) (now draw : Int) (w : World) (h : IsRf w b mac s) (h0 : 0 ≤ now) (h1 : now ≤ 1152921504606846976)
    (a1 : m.op = 2) (a2 : m.id = s.id) (a3 : (m.cl.l != mac.l) = false) (e1 : s.st = 1) (f1 : m.ty = 2) (f2 : m.yours ≠ 0) (f3 : m.server = 0) :
    Calls Try.prog 21 #[.pointer (some ⟨b, 0, none⟩), .agg m.cs.toArray, .int .i64 now, .int .i64 draw] w fun e w' => DoesR w w' b mac s none e := by
  have M0 : Hid (Blk (w.alloc (.cells #[.int .i64 m.op, .int .u32 m.id, .int .u32 m.yours, .int .u8 m.cl.a, .int .u8 m.cl.b, .int .u8 m.cl.c, .int .u8 m.cl.d, .int .u8 m.cl.e, .int .u8 m.cl.f, .int .i64 m.ty, .int .u32 m.server, .int .u32 m.asked, .int .i64 m.time, .int .u32 m.mask, .int .u32 m.router, .int .u32 m.resolver] 27)) w.heap.size 27 m.cs.toArray) := Blk.new _ _ _
  have hb := Lib.hid (h.nx (al (rf w) (.cells #[.int .i64 m.op, .int .u32 m.id, .int .u32 m.yours, .int .u8 m.cl.a, .int .u8 m.cl.b, .int .u8 m.cl.c, .int .u8 m.cl.d, .int .u8 m.cl.e, .int .u8 m.cl.f, .int .i64 m.ty, .int .u32 m.server, .int .u32 m.asked, .int .i64 m.time, .int .u32 m.mask, .int .u32 m.router, .int .u32 m.resolver] 27)))
  have g0 : Hid (w.grownBy (w.alloc (.cells #[.int .i64 m.op, .int .u32 m.id, .int .u32 m.yours, .int .u8 m.cl.a, .int .u8 m.cl.b, .int .u8 m.cl.c, .int .u8 m.cl.d, .int .u8 m.cl.e, .int .u8 m.cl.f, .int .i64 m.ty, .int .u32 m.server, .int .u32 m.asked, .int .i64 m.time, .int .u32 m.mask, .int .u32 m.router, .int .u32 m.resolver] 27)) (some b)) := only_alloc (World.grownBy.refl _ _) _
  have hz : Hid (b < w.heap.size) := Blk.lt h
  have q1 : ((m.op : Int) != 2) = false := by rw [bne_eq_false_iff_eq]; exact a1
  have q2 : ((m.id : Int) != s.id) = false := by rw [bne_eq_false_iff_eq]; exact a2
  have q3 := neq_m6 m.cl mac false a3
  clear a1 a2 a3
  have p1 : ((s.st : Int) == 1) = true := by rw [beq_iff_eq]; exact e1
  have p2 : ((s.st : Int) == 2) = false := by rw [beq_eq_false_iff_ne]; exact (by omega)
  have p4 : ((s.st : Int) == 4) = false := by rw [beq_eq_false_iff_ne]; exact (by omega)
  have p5 : ((s.st : Int) == 5) = false := by rw [beq_eq_false_iff_ne]; exact (by omega)
  clear e1
  have r1 : ((m.ty : Int) == 2) = true := by rw [beq_iff_eq]; exact f1
  have r2 : ((m.yours : Int) != 0) = true := by rw [bne_iff_ne]; exact f2
  have r3 : ((m.server : Int) != 0) = false := by rw [bne_eq_false_iff_eq]; exact f3
  clear f1 f2 f3
  simp only [Ls.cs]
  go_enter Try.func21, Try.ntmps21
  go_wp2
  generalize w.alloc (.cells #[.int .i64 m.op, .int .u32 m.id, .int .u32 m.yours, .int .u8 m.cl.a, .int .u8 m.cl.b, .int .u8 m.cl.c, .int .u8 m.cl.d, .int .u8 m.cl.e, .int .u8 m.cl.f, .int .i64 m.ty, .int .u32 m.server, .int .u32 m.asked, .int .i64 m.time, .int .u32 m.mask, .int .u32 m.router, .int .u32 m.resolver] 27) = W at M0 hb g0 ⊢
  have d0 : W.cell? ⟨w.heap.size, 0, none⟩ = some (.int .i64 m.op) := Blk.cell M0.out 0
  have d1 : W.cell? ⟨w.heap.size, 1, none⟩ = some (.int .u32 m.id) := Blk.cell M0.out 1
  have d2 : W.cell? ⟨w.heap.size, 2, none⟩ = some (.int .u32 m.yours) := Blk.cell M0.out 2
  have d3 : W.cell? ⟨w.heap.size, 3, none⟩ = some (.int .u8 m.cl.a) := Blk.cell M0.out 3
  have d4 : W.cell? ⟨w.heap.size, 4, none⟩ = some (.int .u8 m.cl.b) := Blk.cell M0.out 4
  have d5 : W.cell? ⟨w.heap.size, 5, none⟩ = some (.int .u8 m.cl.c) := Blk.cell M0.out 5
  have d6 : W.cell? ⟨w.heap.size, 6, none⟩ = some (.int .u8 m.cl.d) := Blk.cell M0.out 6
  have d7 : W.cell? ⟨w.heap.size, 7, none⟩ = some (.int .u8 m.cl.e) := Blk.cell M0.out 7
  have d8 : W.cell? ⟨w.heap.size, 8, none⟩ = some (.int .u8 m.cl.f) := Blk.cell M0.out 8
  have d9 : W.cell? ⟨w.heap.size, 9, none⟩ = some (.int .i64 m.ty) := Blk.cell M0.out 9
  have d10 : W.cell? ⟨w.heap.size, 10, none⟩ = some (.int .u32 m.server) := Blk.cell M0.out 10
  have d11 : W.cell? ⟨w.heap.size, 11, none⟩ = some (.int .u32 m.asked) := Blk.cell M0.out 11
  have d12 : W.cell? ⟨w.heap.size, 12, none⟩ = some (.int .i64 m.time) := Blk.cell M0.out 12
  have d13 : W.cell? ⟨w.heap.size, 13, none⟩ = some (.int .u32 m.mask) := Blk.cell M0.out 13
  have d14 : W.cell? ⟨w.heap.size, 14, none⟩ = some (.int .u32 m.router) := Blk.cell M0.out 14
  have d15 : W.cell? ⟨w.heap.size, 15, none⟩ = some (.int .u32 m.resolver) := Blk.cell M0.out 15
  have c0 : W.cell? ⟨b, 0, none⟩ = some (.int .u8 mac.a) := Blk.cell hb.out 0
  have c1 : W.cell? ⟨b, 1, none⟩ = some (.int .u8 mac.b) := Blk.cell hb.out 1
  have c2 : W.cell? ⟨b, 2, none⟩ = some (.int .u8 mac.c) := Blk.cell hb.out 2
  have c3 : W.cell? ⟨b, 3, none⟩ = some (.int .u8 mac.d) := Blk.cell hb.out 3
  have c4 : W.cell? ⟨b, 4, none⟩ = some (.int .u8 mac.e) := Blk.cell hb.out 4
  have c5 : W.cell? ⟨b, 5, none⟩ = some (.int .u8 mac.f) := Blk.cell hb.out 5
  have c6 : W.cell? ⟨b, 6, none⟩ = some (.int .i64 s.st) := Blk.cell hb.out 6
  have c7 : W.cell? ⟨b, 7, none⟩ = some (.int .u32 s.id) := Blk.cell hb.out 7
  have c12 : W.cell? ⟨b, 12, none⟩ = some (.int .u32 s.offer.yours) := Blk.cell hb.out 12
  have c20 : W.cell? ⟨b, 20, none⟩ = some (.int .u32 s.offer.server) := Blk.cell hb.out 20
  have c28 : W.cell? ⟨b, 28, none⟩ = some (.int .u32 s.lease.yours) := Blk.cell hb.out 28
  have c36 : W.cell? ⟨b, 36, none⟩ = some (.int .u32 s.lease.server) := Blk.cell hb.out 36
  go_quiet (fail)
  go_wp2
  go_ret
  exact ⟨_, rfl, rfl, (by exact hb.out), (by repeat' (first | exact g0.out | refine only_drewN ?_ _))⟩
set_option maxRecDepth 100000 in
set_option maxHeartbeats 3200000 in
theorem hearF_2t (b : Nat) (mac : M6) (s : St) (m : Ls) (now draw : Int) (w : World) (h : IsRf w b mac s) (h0 : 0 ≤ now) (h1 : now ≤ 1152921504606846976)
    (a1 : m.op = 2) (a2 : m.id = s.id) (a3 : (m.cl.l != mac.l) = false) (e1 : s.st = 2) (f1 : m.ty ≠ 5) (f2 : m.ty ≠ 6) :
    Calls Try.prog 21 #[.pointer (some ⟨b, 0, none⟩), .agg m.cs.toArray, .int .i64 now, .int .i64 draw] w fun e w' => DoesR w w' b mac s none e := by
  have M0 : Hid (Blk (w.alloc (.cells #[.int .i64 m.op, .int .u32 m.id, .int .u32 m.yours, .int .u8 m.cl.a, .int .u8 m.cl.b, .int .u8 m.cl.c, .int .u8 m.cl.d, .int .u8 m.cl.e, .int .u8 m.cl.f, .int .i64 m.ty, .int .u32 m.server, .int .u32 m.asked, .int .i64 m.time, .int .u32 m.mask, .int .u32 m.router, .int .u32 m.resolver] 27)) w.heap.size 27 m.cs.toArray) := Blk.new _ _ _
  have hb := Lib.hid (h.nx (al (rf w) (.cells #[.int .i64 m.op, .int .u32 m.id, .int .u32 m.yours, .int .u8 m.cl.a, .int .u8 m.cl.b, .int .u8 m.cl.c, .int .u8 m.cl.d, .int .u8 m.cl.e, .int .u8 m.cl.f, .int .i64 m.ty, .int .u32 m.server, .int .u32 m.asked, .int .i64 m.time, .int .u32 m.mask, .int .u32 m.router, .int .u32 m.resolver] 27)))
  have g0 : Hid (w.grownBy (w.alloc (.cells #[.int .i64 m.op, .int .u32 m.id, .int .u32 m.yours, .int .u8 m.cl.a, .int .u8 m.cl.b, .int .u8 m.cl.c, .int .u8 m.cl.d, .int .u8 m.cl.e, .int .u8 m.cl.f, .int .i64 m.ty, .int .u32 m.server, .int .u32 m.asked, .int .i64 m.time, .int .u32 m.mask, .int .u32 m.router, .int .u32 m.resolver] 27)) (some b)) := only_alloc (World.grownBy.refl _ _) _
  have hz : Hid (b < w.heap.size) := Blk.lt h
  have q1 : ((m.op : Int) != 2) = false := by rw [bne_eq_false_iff_eq]; exact a1
  have q2 : ((m.id : Int) != s.id) = false := by rw [bne_eq_false_iff_eq]; exact a2
  have q3 := neq_m6 m.cl mac false a3
  clear a1 a2 a3
  have p1 : ((s.st : Int) == 1) = false := by rw [beq_eq_false_iff_ne]; exact (by omega)
  have p2 : ((s.st : Int) == 2) = true := by rw [beq_iff_eq]; exact e1
  have p4 : ((s.st : Int) == 4) = false := by rw [beq_eq_false_iff_ne]; exact (by omega)
  have p5 : ((s.st : Int) == 5) = false := by rw [beq_eq_false_iff_ne]; exact (by omega)
  clear e1
  have r1 : ((m.ty : Int) == 5) = false := by rw [beq_eq_false_iff_ne]; exact f1
  have r2 : ((m.ty : Int) == 6) = false := by rw [beq_eq_false_iff_ne]; exact f2
  clear f1 f2
  simp only [Ls.cs]
  go_enter Try.func21, Try.ntmps21
  go_wp2
  generalize w.alloc (.cells #[.int .i64 m.op, .int .u32 m.id, .int .u32 m.yours, .int .u8 m.cl.a, .int .u8 m.cl.b, .int .u8 m.cl.c, .int .u8 m.cl.d, .int .u8 m.cl.e, .int .u8 m.cl.f, .int .i64 m.ty, .int .u32 m.server, .int .u32 m.asked, .int .i64 m.time, .int .u32 m.mask, .int .u32 m.router, .int .u32 m.resolver] 27) = W at M0 hb g0 ⊢
  have d0 : W.cell? ⟨w.heap.size, 0, none⟩ = some (.int .i64 m.op) := Blk.cell M0.out 0
  have d1 : W.cell? ⟨w.heap.size, 1, none⟩ = some (.int .u32 m.id) := Blk.cell M0.out 1
  have d2 : W.cell? ⟨w.heap.size, 2, none⟩ = some (.int .u32 m.yours) := Blk.cell M0.out 2
  have d3 : W.cell? ⟨w.heap.size, 3, none⟩ = some (.int .u8 m.cl.a) := Blk.cell M0.out 3
  have d4 : W.cell? ⟨w.heap.size, 4, none⟩ = some (.int .u8 m.cl.b) := Blk.cell M0.out 4
  have d5 : W.cell? ⟨w.heap.size, 5, none⟩ = some (.int .u8 m.cl.c) := Blk.cell M0.out 5
  have d6 : W.cell? ⟨w.heap.size, 6, none⟩ = some (.int .u8 m.cl.d) := Blk.cell M0.out 6
  have d7 : W.cell? ⟨w.heap.size, 7, none⟩ = some (.int .u8 m.cl.e) := Blk.cell M0.out 7
  have d8 : W.cell? ⟨w.heap.size, 8, none⟩ = some (.int .u8 m.cl.f) := Blk.cell M0.out 8
  have d9 : W.cell? ⟨w.heap.size, 9, none⟩ = some (.int .i64 m.ty) := Blk.cell M0.out 9
  have d10 : W.cell? ⟨w.heap.size, 10, none⟩ = some (.int .u32 m.server) := Blk.cell M0.out 10
  have d11 : W.cell? ⟨w.heap.size, 11, none⟩ = some (.int .u32 m.asked) := Blk.cell M0.out 11
  have d12 : W.cell? ⟨w.heap.size, 12, none⟩ = some (.int .i64 m.time) := Blk.cell M0.out 12
  have d13 : W.cell? ⟨w.heap.size, 13, none⟩ = some (.int .u32 m.mask) := Blk.cell M0.out 13
  have d14 : W.cell? ⟨w.heap.size, 14, none⟩ = some (.int .u32 m.router) := Blk.cell M0.out 14
  have d15 : W.cell? ⟨w.heap.size, 15, none⟩ = some (.int .u32 m.resolver) := Blk.cell M0.out 15
  have c0 : W.cell? ⟨b, 0, none⟩ = some (.int .u8 mac.a) := Blk.cell hb.out 0
  have c1 : W.cell? ⟨b, 1, none⟩ = some (.int .u8 mac.b) := Blk.cell hb.out 1
  have c2 : W.cell? ⟨b, 2, none⟩ = some (.int .u8 mac.c) := Blk.cell hb.out 2
  have c3 : W.cell? ⟨b, 3, none⟩ = some (.int .u8 mac.d) := Blk.cell hb.out 3
  have c4 : W.cell? ⟨b, 4, none⟩ = some (.int .u8 mac.e) := Blk.cell hb.out 4
  have c5 : W.cell? ⟨b, 5, none⟩ = some (.int .u8 mac.f) := Blk.cell hb.out 5
  have c6 : W.cell? ⟨b, 6, none⟩ = some (.int .i64 s.st) := Blk.cell hb.out 6
  have c7 : W.cell? ⟨b, 7, none⟩ = some (.int .u32 s.id) := Blk.cell hb.out 7
  have c12 : W.cell? ⟨b, 12, none⟩ = some (.int .u32 s.offer.yours) := Blk.cell hb.out 12
  have c20 : W.cell? ⟨b, 20, none⟩ = some (.int .u32 s.offer.server) := Blk.cell hb.out 20
  have c28 : W.cell? ⟨b, 28, none⟩ = some (.int .u32 s.lease.yours) := Blk.cell hb.out 28
  have c36 : W.cell? ⟨b, 36, none⟩ = some (.int .u32 s.lease.server) := Blk.cell hb.out 36
  go_quiet (fail)
  go_wp2
  go_quiet (fail)
  go_wp2
  go_ret
  exact ⟨_, rfl, rfl, (by exact hb.out), (by repeat' (first | exact g0.out | refine only_drewN ?_ _))⟩
set_option maxRecDepth 100000 in
set_option maxHeartbeats 3200000 in
theorem hearF_2y (b : Nat) (mac : M6) (s : St) (m : Ls) (now draw : Int) (w : World) (h : IsRf w b mac s) (h0 : 0 ≤ now) (h1 : now ≤ 1152921504606846976)
    (a1 : m.op = 2) (a2 : m.id = s.id) (a3 : (m.cl.l != mac.l) = false) (e1 : s.st = 2) (f1 : m.ty = 5) (f2 : m.yours ≠ s.offer.yours) :
    Calls Try.prog 21 #[.pointer (some ⟨b, 0, none⟩), .agg m.cs.toArray, .int .i64 now, .int .i64 draw] w fun e w' => DoesR w w' b mac s none e := by
  have M0 : Hid (Blk (w.alloc (.cells #[.int .i64 m.op, .int .u32 m.id, .int .u32 m.yours, .int .u8 m.cl.a, .int .u8 m.cl.b, .int .u8 m.cl.c, .int .u8 m.cl.d, .int .u8 m.cl.e, .int .u8 m.cl.f, .int .i64 m.ty, .int .u32 m.server, .int .u32 m.asked, .int .i64 m.time, .int .u32 m.mask, .int .u32 m.router, .int .u32 m.resolver] 27)) w.heap.size 27 m.cs.toArray) := Blk.new _ _ _
  have hb := Lib.hid (h.nx (al (rf w) (.cells #[.int .i64 m.op, .int .u32 m.id, .int .u32 m.yours, .int .u8 m.cl.a, .int .u8 m.cl.b, .int .u8 m.cl.c, .int .u8 m.cl.d, .int .u8 m.cl.e, .int .u8 m.cl.f, .int .i64 m.ty, .int .u32 m.server, .int .u32 m.asked, .int .i64 m.time, .int .u32 m.mask, .int .u32 m.router, .int .u32 m.resolver] 27)))
  have g0 : Hid (w.grownBy (w.alloc (.cells #[.int .i64 m.op, .int .u32 m.id, .int .u32 m.yours, .int .u8 m.cl.a, .int .u8 m.cl.b, .int .u8 m.cl.c, .int .u8 m.cl.d, .int .u8 m.cl.e, .int .u8 m.cl.f, .int .i64 m.ty, .int .u32 m.server, .int .u32 m.asked, .int .i64 m.time, .int .u32 m.mask, .int .u32 m.router, .int .u32 m.resolver] 27)) (some b)) := only_alloc (World.grownBy.refl _ _) _
  have hz : Hid (b < w.heap.size) := Blk.lt h
  have q1 : ((m.op : Int) != 2) = false := by rw [bne_eq_false_iff_eq]; exact a1
  have q2 : ((m.id : Int) != s.id) = false := by rw [bne_eq_false_iff_eq]; exact a2
  have q3 := neq_m6 m.cl mac false a3
  clear a1 a2 a3
  have p1 : ((s.st : Int) == 1) = false := by rw [beq_eq_false_iff_ne]; exact (by omega)
  have p2 : ((s.st : Int) == 2) = true := by rw [beq_iff_eq]; exact e1
  have p4 : ((s.st : Int) == 4) = false := by rw [beq_eq_false_iff_ne]; exact (by omega)
  have p5 : ((s.st : Int) == 5) = false := by rw [beq_eq_false_iff_ne]; exact (by omega)
  clear e1
  have r1 : ((m.ty : Int) == 5) = true := by rw [beq_iff_eq]; exact f1
  have r2 : ((m.ty : Int) == 6) = false := by rw [beq_eq_false_iff_ne]; exact (by omega)
  have r3 : ((m.yours : Int) == s.offer.yours) = false := by rw [beq_eq_false_iff_ne]; exact f2
  clear f1 f2
  simp only [Ls.cs]
  go_enter Try.func21, Try.ntmps21
  go_wp2
  generalize w.alloc (.cells #[.int .i64 m.op, .int .u32 m.id, .int .u32 m.yours, .int .u8 m.cl.a, .int .u8 m.cl.b, .int .u8 m.cl.c, .int .u8 m.cl.d, .int .u8 m.cl.e, .int .u8 m.cl.f, .int .i64 m.ty, .int .u32 m.server, .int .u32 m.asked, .int .i64 m.time, .int .u32 m.mask, .int .u32 m.router, .int .u32 m.resolver] 27) = W at M0 hb g0 ⊢
  have d0 : W.cell? ⟨w.heap.size, 0, none⟩ = some (.int .i64 m.op) := Blk.cell M0.out 0
  have d1 : W.cell? ⟨w.heap.size, 1, none⟩ = some (.int .u32 m.id) := Blk.cell M0.out 1
  have d2 : W.cell? ⟨w.heap.size, 2, none⟩ = some (.int .u32 m.yours) := Blk.cell M0.out 2
  have d3 : W.cell? ⟨w.heap.size, 3, none⟩ = some (.int .u8 m.cl.a) := Blk.cell M0.out 3
  have d4 : W.cell? ⟨w.heap.size, 4, none⟩ = some (.int .u8 m.cl.b) := Blk.cell M0.out 4
  have d5 : W.cell? ⟨w.heap.size, 5, none⟩ = some (.int .u8 m.cl.c) := Blk.cell M0.out 5
  have d6 : W.cell? ⟨w.heap.size, 6, none⟩ = some (.int .u8 m.cl.d) := Blk.cell M0.out 6
  have d7 : W.cell? ⟨w.heap.size, 7, none⟩ = some (.int .u8 m.cl.e) := Blk.cell M0.out 7
  have d8 : W.cell? ⟨w.heap.size, 8, none⟩ = some (.int .u8 m.cl.f) := Blk.cell M0.out 8
  have d9 : W.cell? ⟨w.heap.size, 9, none⟩ = some (.int .i64 m.ty) := Blk.cell M0.out 9
  have d10 : W.cell? ⟨w.heap.size, 10, none⟩ = some (.int .u32 m.server) := Blk.cell M0.out 10
  have d11 : W.cell? ⟨w.heap.size, 11, none⟩ = some (.int .u32 m.asked) := Blk.cell M0.out 11
  have d12 : W.cell? ⟨w.heap.size, 12, none⟩ = some (.int .i64 m.time) := Blk.cell M0.out 12
  have d13 : W.cell? ⟨w.heap.size, 13, none⟩ = some (.int .u32 m.mask) := Blk.cell M0.out 13
  have d14 : W.cell? ⟨w.heap.size, 14, none⟩ = some (.int .u32 m.router) := Blk.cell M0.out 14
  have d15 : W.cell? ⟨w.heap.size, 15, none⟩ = some (.int .u32 m.resolver) := Blk.cell M0.out 15
  have c0 : W.cell? ⟨b, 0, none⟩ = some (.int .u8 mac.a) := Blk.cell hb.out 0
  have c1 : W.cell? ⟨b, 1, none⟩ = some (.int .u8 mac.b) := Blk.cell hb.out 1
  have c2 : W.cell? ⟨b, 2, none⟩ = some (.int .u8 mac.c) := Blk.cell hb.out 2
  have c3 : W.cell? ⟨b, 3, none⟩ = some (.int .u8 mac.d) := Blk.cell hb.out 3
  have c4 : W.cell? ⟨b, 4, none⟩ = some (.int .u8 mac.e) := Blk.cell hb.out 4
  have c5 : W.cell? ⟨b, 5, none⟩ = some (.int .u8 mac.f) := Blk.cell hb.out 5
  have c6 : W.cell? ⟨b, 6, none⟩ = some (.int .i64 s.st) := Blk.cell hb.out 6
  have c7 : W.cell? ⟨b, 7, none⟩ = some (.int .u32 s.id) := Blk.cell hb.out 7
  have c12 : W.cell? ⟨b, 12, none⟩ = some (.int .u32 s.offer.yours) := Blk.cell hb.out 12
  have c20 : W.cell? ⟨b, 20, none⟩ = some (.int .u32 s.offer.server) := Blk.cell hb.out 20
  have c28 : W.cell? ⟨b, 28, none⟩ = some (.int .u32 s.lease.yours) := Blk.cell hb.out 28
  have c36 : W.cell? ⟨b, 36, none⟩ = some (.int .u32 s.lease.server) := Blk.cell hb.out 36
  go_quiet (fail)
  go_wp2
  go_quiet (fail)
  go_wp2
  go_ret
  exact ⟨_, rfl, rfl, (by exact hb.out), (by repeat' (first | exact g0.out | refine only_drewN ?_ _))⟩
set_option maxRecDepth 100000 in
set_option maxHeartbeats 3200000 in
theorem hearF_2r (b : Nat) (mac : M6) (s : St) (m : Ls) (now draw : Int) (w : World) (h : IsRf w b mac s) (h0 : 0 ≤ now) (h1 : now ≤ 1152921504606846976)
    (a1 : m.op = 2) (a2 : m.id = s.id) (a3 : (m.cl.l != mac.l) = false) (e1 : s.st = 2) (f1 : m.ty = 6) :
    Calls Try.prog 21 #[.pointer (some ⟨b, 0, none⟩), .agg m.cs.toArray, .int .i64 now, .int .i64 draw] w fun e w' => DoesR w w' b mac (beginF s now draw) (some (says mac (draw % 4294967296) 1 0 0)) e := by
  have M0 : Hid (Blk (w.alloc (.cells #[.int .i64 m.op, .int .u32 m.id, .int .u32 m.yours, .int .u8 m.cl.a, .int .u8 m.cl.b, .int .u8 m.cl.c, .int .u8 m.cl.d, .int .u8 m.cl.e, .int .u8 m.cl.f, .int .i64 m.ty, .int .u32 m.server, .int .u32 m.asked, .int .i64 m.time, .int .u32 m.mask, .int .u32 m.router, .int .u32 m.resolver] 27)) w.heap.size 27 m.cs.toArray) := Blk.new _ _ _
  have hb := Lib.hid (h.nx (al (rf w) (.cells #[.int .i64 m.op, .int .u32 m.id, .int .u32 m.yours, .int .u8 m.cl.a, .int .u8 m.cl.b, .int .u8 m.cl.c, .int .u8 m.cl.d, .int .u8 m.cl.e, .int .u8 m.cl.f, .int .i64 m.ty, .int .u32 m.server, .int .u32 m.asked, .int .i64 m.time, .int .u32 m.mask, .int .u32 m.router, .int .u32 m.resolver] 27)))
  have g0 : Hid (w.grownBy (w.alloc (.cells #[.int .i64 m.op, .int .u32 m.id, .int .u32 m.yours, .int .u8 m.cl.a, .int .u8 m.cl.b, .int .u8 m.cl.c, .int .u8 m.cl.d, .int .u8 m.cl.e, .int .u8 m.cl.f, .int .i64 m.ty, .int .u32 m.server, .int .u32 m.asked, .int .i64 m.time, .int .u32 m.mask, .int .u32 m.router, .int .u32 m.resolver] 27)) (some b)) := only_alloc (World.grownBy.refl _ _) _
  have hz : Hid (b < w.heap.size) := Blk.lt h
  have q1 : ((m.op : Int) != 2) = false := by rw [bne_eq_false_iff_eq]; exact a1
  have q2 : ((m.id : Int) != s.id) = false := by rw [bne_eq_false_iff_eq]; exact a2
  have q3 := neq_m6 m.cl mac false a3
  clear a1 a2 a3
  have p1 : ((s.st : Int) == 1) = false := by rw [beq_eq_false_iff_ne]; exact (by omega)
  have p2 : ((s.st : Int) == 2) = true := by rw [beq_iff_eq]; exact e1
  have p4 : ((s.st : Int) == 4) = false := by rw [beq_eq_false_iff_ne]; exact (by omega)
  have p5 : ((s.st : Int) == 5) = false := by rw [beq_eq_false_iff_ne]; exact (by omega)
  clear e1
  have r1 : ((m.ty : Int) == 5) = false := by rw [beq_eq_false_iff_ne]; exact (by omega)
  have r2 : ((m.ty : Int) == 6) = true := by rw [beq_iff_eq]; exact f1
  clear f1
  simp only [Ls.cs]
  go_enter Try.func21, Try.ntmps21
  go_wp2
  generalize w.alloc (.cells #[.int .i64 m.op, .int .u32 m.id, .int .u32 m.yours, .int .u8 m.cl.a, .int .u8 m.cl.b, .int .u8 m.cl.c, .int .u8 m.cl.d, .int .u8 m.cl.e, .int .u8 m.cl.f, .int .i64 m.ty, .int .u32 m.server, .int .u32 m.asked, .int .i64 m.time, .int .u32 m.mask, .int .u32 m.router, .int .u32 m.resolver] 27) = W at M0 hb g0 ⊢
  have d0 : W.cell? ⟨w.heap.size, 0, none⟩ = some (.int .i64 m.op) := Blk.cell M0.out 0
  have d1 : W.cell? ⟨w.heap.size, 1, none⟩ = some (.int .u32 m.id) := Blk.cell M0.out 1
  have d2 : W.cell? ⟨w.heap.size, 2, none⟩ = some (.int .u32 m.yours) := Blk.cell M0.out 2
  have d3 : W.cell? ⟨w.heap.size, 3, none⟩ = some (.int .u8 m.cl.a) := Blk.cell M0.out 3
  have d4 : W.cell? ⟨w.heap.size, 4, none⟩ = some (.int .u8 m.cl.b) := Blk.cell M0.out 4
  have d5 : W.cell? ⟨w.heap.size, 5, none⟩ = some (.int .u8 m.cl.c) := Blk.cell M0.out 5
  have d6 : W.cell? ⟨w.heap.size, 6, none⟩ = some (.int .u8 m.cl.d) := Blk.cell M0.out 6
  have d7 : W.cell? ⟨w.heap.size, 7, none⟩ = some (.int .u8 m.cl.e) := Blk.cell M0.out 7
  have d8 : W.cell? ⟨w.heap.size, 8, none⟩ = some (.int .u8 m.cl.f) := Blk.cell M0.out 8
  have d9 : W.cell? ⟨w.heap.size, 9, none⟩ = some (.int .i64 m.ty) := Blk.cell M0.out 9
  have d10 : W.cell? ⟨w.heap.size, 10, none⟩ = some (.int .u32 m.server) := Blk.cell M0.out 10
  have d11 : W.cell? ⟨w.heap.size, 11, none⟩ = some (.int .u32 m.asked) := Blk.cell M0.out 11
  have d12 : W.cell? ⟨w.heap.size, 12, none⟩ = some (.int .i64 m.time) := Blk.cell M0.out 12
  have d13 : W.cell? ⟨w.heap.size, 13, none⟩ = some (.int .u32 m.mask) := Blk.cell M0.out 13
  have d14 : W.cell? ⟨w.heap.size, 14, none⟩ = some (.int .u32 m.router) := Blk.cell M0.out 14
  have d15 : W.cell? ⟨w.heap.size, 15, none⟩ = some (.int .u32 m.resolver) := Blk.cell M0.out 15
  have c0 : W.cell? ⟨b, 0, none⟩ = some (.int .u8 mac.a) := Blk.cell hb.out 0
  have c1 : W.cell? ⟨b, 1, none⟩ = some (.int .u8 mac.b) := Blk.cell hb.out 1
  have c2 : W.cell? ⟨b, 2, none⟩ = some (.int .u8 mac.c) := Blk.cell hb.out 2
  have c3 : W.cell? ⟨b, 3, none⟩ = some (.int .u8 mac.d) := Blk.cell hb.out 3
  have c4 : W.cell? ⟨b, 4, none⟩ = some (.int .u8 mac.e) := Blk.cell hb.out 4
  have c5 : W.cell? ⟨b, 5, none⟩ = some (.int .u8 mac.f) := Blk.cell hb.out 5
  have c6 : W.cell? ⟨b, 6, none⟩ = some (.int .i64 s.st) := Blk.cell hb.out 6
  have c7 : W.cell? ⟨b, 7, none⟩ = some (.int .u32 s.id) := Blk.cell hb.out 7
  have c12 : W.cell? ⟨b, 12, none⟩ = some (.int .u32 s.offer.yours) := Blk.cell hb.out 12
  have c20 : W.cell? ⟨b, 20, none⟩ = some (.int .u32 s.offer.server) := Blk.cell hb.out 20
  have c28 : W.cell? ⟨b, 28, none⟩ = some (.int .u32 s.lease.yours) := Blk.cell hb.out 28
  have c36 : W.cell? ⟨b, 36, none⟩ = some (.int .u32 s.lease.server) := Blk.cell hb.out 36
  go_quiet (fail)
  go_wp2
  go_quiet (fail)
  go_wp2_with fail
  refine (beginF_ b mac s now draw _ (by exact hb.out) h0 h1).mono ?_
  rintro e w1 ⟨v, rfl, ho, hC, hg⟩
  go_wp2
  go_ret
  exact ⟨v, rfl, ho.more (by exact g0.out.size), hC, only_trans (by repeat' (first | exact g0.out | refine only_drewN ?_ _)) hg⟩
set_option maxRecDepth 100000 in
set_option maxHeartbeats 3200000 in
theorem hearF_2b (b : Nat) (mac : M6) (s : St) (m : Ls) (now draw : Int) (w : World) (h : IsRf w b mac s) (h0 : 0 ≤ now) (h1 : now ≤ 1152921504606846976)
    (a1 : m.op = 2) (a2 : m.id = s.id) (a3 : (m.cl.l != mac.l) = false) (e1 : s.st = 2) (f1 : m.ty = 5) (f2 : m.yours = s.offer.yours) :
    Calls Try.prog 21 #[.pointer (some ⟨b, 0, none⟩), .agg m.cs.toArray, .int .i64 now, .int .i64 draw] w fun e w' => DoesR w w' b mac (bindS s m s.offer.server now) none e := by
  have M0 : Hid (Blk (w.alloc (.cells #[.int .i64 m.op, .int .u32 m.id, .int .u32 m.yours, .int .u8 m.cl.a, .int .u8 m.cl.b, .int .u8 m.cl.c, .int .u8 m.cl.d, .int .u8 m.cl.e, .int .u8 m.cl.f, .int .i64 m.ty, .int .u32 m.server, .int .u32 m.asked, .int .i64 m.time, .int .u32 m.mask, .int .u32 m.router, .int .u32 m.resolver] 27)) w.heap.size 27 m.cs.toArray) := Blk.new _ _ _
  have hb := Lib.hid (h.nx (al (rf w) (.cells #[.int .i64 m.op, .int .u32 m.id, .int .u32 m.yours, .int .u8 m.cl.a, .int .u8 m.cl.b, .int .u8 m.cl.c, .int .u8 m.cl.d, .int .u8 m.cl.e, .int .u8 m.cl.f, .int .i64 m.ty, .int .u32 m.server, .int .u32 m.asked, .int .i64 m.time, .int .u32 m.mask, .int .u32 m.router, .int .u32 m.resolver] 27)))
  have g0 : Hid (w.grownBy (w.alloc (.cells #[.int .i64 m.op, .int .u32 m.id, .int .u32 m.yours, .int .u8 m.cl.a, .int .u8 m.cl.b, .int .u8 m.cl.c, .int .u8 m.cl.d, .int .u8 m.cl.e, .int .u8 m.cl.f, .int .i64 m.ty, .int .u32 m.server, .int .u32 m.asked, .int .i64 m.time, .int .u32 m.mask, .int .u32 m.router, .int .u32 m.resolver] 27)) (some b)) := only_alloc (World.grownBy.refl _ _) _
  have hz : Hid (b < w.heap.size) := Blk.lt h
  have q1 : ((m.op : Int) != 2) = false := by rw [bne_eq_false_iff_eq]; exact a1
  have q2 : ((m.id : Int) != s.id) = false := by rw [bne_eq_false_iff_eq]; exact a2
  have q3 := neq_m6 m.cl mac false a3
  clear a1 a2 a3
  have p1 : ((s.st : Int) == 1) = false := by rw [beq_eq_false_iff_ne]; exact (by omega)
  have p2 : ((s.st : Int) == 2) = true := by rw [beq_iff_eq]; exact e1
  have p4 : ((s.st : Int) == 4) = false := by rw [beq_eq_false_iff_ne]; exact (by omega)
  have p5 : ((s.st : Int) == 5) = false := by rw [beq_eq_false_iff_ne]; exact (by omega)
  clear e1
  have r1 : ((m.ty : Int) == 5) = true := by rw [beq_iff_eq]; exact f1
  have r2 : ((m.ty : Int) == 6) = false := by rw [beq_eq_false_iff_ne]; exact (by omega)
  have r3 : ((m.yours : Int) == s.offer.yours) = true := by rw [beq_iff_eq]; exact f2
  clear f1 f2
  simp only [Ls.cs]
  go_enter Try.func21, Try.ntmps21
  go_wp2
  generalize w.alloc (.cells #[.int .i64 m.op, .int .u32 m.id, .int .u32 m.yours, .int .u8 m.cl.a, .int .u8 m.cl.b, .int .u8 m.cl.c, .int .u8 m.cl.d, .int .u8 m.cl.e, .int .u8 m.cl.f, .int .i64 m.ty, .int .u32 m.server, .int .u32 m.asked, .int .i64 m.time, .int .u32 m.mask, .int .u32 m.router, .int .u32 m.resolver] 27) = W at M0 hb g0 ⊢
  have d0 : W.cell? ⟨w.heap.size, 0, none⟩ = some (.int .i64 m.op) := Blk.cell M0.out 0
  have d1 : W.cell? ⟨w.heap.size, 1, none⟩ = some (.int .u32 m.id) := Blk.cell M0.out 1
  have d2 : W.cell? ⟨w.heap.size, 2, none⟩ = some (.int .u32 m.yours) := Blk.cell M0.out 2
  have d3 : W.cell? ⟨w.heap.size, 3, none⟩ = some (.int .u8 m.cl.a) := Blk.cell M0.out 3
  have d4 : W.cell? ⟨w.heap.size, 4, none⟩ = some (.int .u8 m.cl.b) := Blk.cell M0.out 4
  have d5 : W.cell? ⟨w.heap.size, 5, none⟩ = some (.int .u8 m.cl.c) := Blk.cell M0.out 5
  have d6 : W.cell? ⟨w.heap.size, 6, none⟩ = some (.int .u8 m.cl.d) := Blk.cell M0.out 6
  have d7 : W.cell? ⟨w.heap.size, 7, none⟩ = some (.int .u8 m.cl.e) := Blk.cell M0.out 7
  have d8 : W.cell? ⟨w.heap.size, 8, none⟩ = some (.int .u8 m.cl.f) := Blk.cell M0.out 8
  have d9 : W.cell? ⟨w.heap.size, 9, none⟩ = some (.int .i64 m.ty) := Blk.cell M0.out 9
  have d10 : W.cell? ⟨w.heap.size, 10, none⟩ = some (.int .u32 m.server) := Blk.cell M0.out 10
  have d11 : W.cell? ⟨w.heap.size, 11, none⟩ = some (.int .u32 m.asked) := Blk.cell M0.out 11
  have d12 : W.cell? ⟨w.heap.size, 12, none⟩ = some (.int .i64 m.time) := Blk.cell M0.out 12
  have d13 : W.cell? ⟨w.heap.size, 13, none⟩ = some (.int .u32 m.mask) := Blk.cell M0.out 13
  have d14 : W.cell? ⟨w.heap.size, 14, none⟩ = some (.int .u32 m.router) := Blk.cell M0.out 14
  have d15 : W.cell? ⟨w.heap.size, 15, none⟩ = some (.int .u32 m.resolver) := Blk.cell M0.out 15
  have c0 : W.cell? ⟨b, 0, none⟩ = some (.int .u8 mac.a) := Blk.cell hb.out 0
  have c1 : W.cell? ⟨b, 1, none⟩ = some (.int .u8 mac.b) := Blk.cell hb.out 1
  have c2 : W.cell? ⟨b, 2, none⟩ = some (.int .u8 mac.c) := Blk.cell hb.out 2
  have c3 : W.cell? ⟨b, 3, none⟩ = some (.int .u8 mac.d) := Blk.cell hb.out 3
  have c4 : W.cell? ⟨b, 4, none⟩ = some (.int .u8 mac.e) := Blk.cell hb.out 4
  have c5 : W.cell? ⟨b, 5, none⟩ = some (.int .u8 mac.f) := Blk.cell hb.out 5
  have c6 : W.cell? ⟨b, 6, none⟩ = some (.int .i64 s.st) := Blk.cell hb.out 6
  have c7 : W.cell? ⟨b, 7, none⟩ = some (.int .u32 s.id) := Blk.cell hb.out 7
  have c12 : W.cell? ⟨b, 12, none⟩ = some (.int .u32 s.offer.yours) := Blk.cell hb.out 12
  have c20 : W.cell? ⟨b, 20, none⟩ = some (.int .u32 s.offer.server) := Blk.cell hb.out 20
  have c28 : W.cell? ⟨b, 28, none⟩ = some (.int .u32 s.lease.yours) := Blk.cell hb.out 28
  have c36 : W.cell? ⟨b, 36, none⟩ = some (.int .u32 s.lease.server) := Blk.cell hb.out 36
  go_quiet (fail)
  go_wp2
  go_quiet (fail)
  go_wp2
  refine over_draws (F := fun W => Code.wp _ _ _ _ W) (fun W0 hW0 => ?_)
  have e0 : W0.cell? ⟨w.heap.size, 0, none⟩ = some (.int .i64 m.op) := by rw [hW0]; exact d0
  have e1 : W0.cell? ⟨w.heap.size, 1, none⟩ = some (.int .u32 m.id) := by rw [hW0]; exact d1
  have e2 : W0.cell? ⟨w.heap.size, 2, none⟩ = some (.int .u32 m.yours) := by rw [hW0]; exact d2
  have e3 : W0.cell? ⟨w.heap.size, 3, none⟩ = some (.int .u8 m.cl.a) := by rw [hW0]; exact d3
  have e4 : W0.cell? ⟨w.heap.size, 4, none⟩ = some (.int .u8 m.cl.b) := by rw [hW0]; exact d4
  have e5 : W0.cell? ⟨w.heap.size, 5, none⟩ = some (.int .u8 m.cl.c) := by rw [hW0]; exact d5
  have e6 : W0.cell? ⟨w.heap.size, 6, none⟩ = some (.int .u8 m.cl.d) := by rw [hW0]; exact d6
  have e7 : W0.cell? ⟨w.heap.size, 7, none⟩ = some (.int .u8 m.cl.e) := by rw [hW0]; exact d7
  have e8 : W0.cell? ⟨w.heap.size, 8, none⟩ = some (.int .u8 m.cl.f) := by rw [hW0]; exact d8
  have e9 : W0.cell? ⟨w.heap.size, 9, none⟩ = some (.int .i64 m.ty) := by rw [hW0]; exact d9
  have e10 : W0.cell? ⟨w.heap.size, 10, none⟩ = some (.int .u32 m.server) := by rw [hW0]; exact d10
  have e11 : W0.cell? ⟨w.heap.size, 11, none⟩ = some (.int .u32 m.asked) := by rw [hW0]; exact d11
  have e12 : W0.cell? ⟨w.heap.size, 12, none⟩ = some (.int .i64 m.time) := by rw [hW0]; exact d12
  have e13 : W0.cell? ⟨w.heap.size, 13, none⟩ = some (.int .u32 m.mask) := by rw [hW0]; exact d13
  have e14 : W0.cell? ⟨w.heap.size, 14, none⟩ = some (.int .u32 m.router) := by rw [hW0]; exact d14
  have e15 : W0.cell? ⟨w.heap.size, 15, none⟩ = some (.int .u32 m.resolver) := by rw [hW0]; exact d15
  have es : W0.cell? ⟨b, 20, none⟩ = some (.int .u32 s.offer.server) := by rw [hW0]; exact c20
  have hI0 : IsRf W0 b mac s := by rw [hW0]; exact hb.out
  have hM0 : Blk W0 w.heap.size 27 m.cs.toArray := by rw [hW0]; exact M0.out
  have hG0 : w.grownBy W0 (some b) := by rw [hW0]; exact (by repeat' (first | exact g0.out | refine only_drewN ?_ _))
  clear hW0 d0 d1 d2 d3 d4 d5 d6 d7 d8 d9 d10 d11 d12 d13 d14 d15 c0 c1 c2 c3 c4 c5 c6 c7 c12 c20 c28 c36 hb M0 g0
  have hx : ∀ (a : Addr) (n : Nat), ({ W0 with drawn := n } : World).cell? a = W0.cell? a := fun _ _ => rfl
  go_still_tail 8, (by kernel_rfl)
  clear hx
  change wpList _ _ _ _ _ (World.drew _)
  generalize hW : World.drew _ = V
  have hI : IsRf V b mac s := by rw [← hW]; exact hI0
  have hM : Hid (Blk V w.heap.size 27 m.cs.toArray) := by rw [← hW]; exact hM0
  have hG : w.grownBy V (some b) := by rw [← hW]; exact only_drew hG0
  clear hW
  go_wp2_with fail
  refine (bindsF b mac s m s.offer.server now _ hI h0 h1).mono ?_
  rintro e w1 ⟨rfl, hC, hg⟩
  have hM1 : Blk w1 w.heap.size 27 m.cs.toArray := Blk.only hM.out hg (by have := hz.out; omega)
  have k9 : w1.cell? ⟨w.heap.size, 9, none⟩ = some (.int .i64 m.ty) := hM1.cell 9
  go_wp2
  go_ret
  exact ⟨_, rfl, rfl, hC, only_trans hG hg⟩
set_option maxRecDepth 100000 in
set_option maxHeartbeats 3200000 in
theorem hearF_4t (b : Nat) (mac : M6) (s : St) (m : Ls) (now draw : Int) (w : World) (h : IsRf w b mac s) (h0 : 0 ≤ now) (h1 : now ≤ 1152921504606846976)
    (a1 : m.op = 2) (a2 : m.id = s.id) (a3 : (m.cl.l != mac.l) = false) (e1 : s.st = 4) (f1 : m.ty ≠ 5) (f2 : m.ty ≠ 6) :
    Calls Try.prog 21 #[.pointer (some ⟨b, 0, none⟩), .agg m.cs.toArray, .int .i64 now, .int .i64 draw] w fun e w' => DoesR w w' b mac s none e := by
  have M0 : Hid (Blk (w.alloc (.cells #[.int .i64 m.op, .int .u32 m.id, .int .u32 m.yours, .int .u8 m.cl.a, .int .u8 m.cl.b, .int .u8 m.cl.c, .int .u8 m.cl.d, .int .u8 m.cl.e, .int .u8 m.cl.f, .int .i64 m.ty, .int .u32 m.server, .int .u32 m.asked, .int .i64 m.time, .int .u32 m.mask, .int .u32 m.router, .int .u32 m.resolver] 27)) w.heap.size 27 m.cs.toArray) := Blk.new _ _ _
  have hb := Lib.hid (h.nx (al (rf w) (.cells #[.int .i64 m.op, .int .u32 m.id, .int .u32 m.yours, .int .u8 m.cl.a, .int .u8 m.cl.b, .int .u8 m.cl.c, .int .u8 m.cl.d, .int .u8 m.cl.e, .int .u8 m.cl.f, .int .i64 m.ty, .int .u32 m.server, .int .u32 m.asked, .int .i64 m.time, .int .u32 m.mask, .int .u32 m.router, .int .u32 m.resolver] 27)))
  have g0 : Hid (w.grownBy (w.alloc (.cells #[.int .i64 m.op, .int .u32 m.id, .int .u32 m.yours, .int .u8 m.cl.a, .int .u8 m.cl.b, .int .u8 m.cl.c, .int .u8 m.cl.d, .int .u8 m.cl.e, .int .u8 m.cl.f, .int .i64 m.ty, .int .u32 m.server, .int .u32 m.asked, .int .i64 m.time, .int .u32 m.mask, .int .u32 m.router, .int .u32 m.resolver] 27)) (some b)) := only_alloc (World.grownBy.refl _ _) _
  have hz : Hid (b < w.heap.size) := Blk.lt h
  have q1 : ((m.op : Int) != 2) = false := by rw [bne_eq_false_iff_eq]; exact a1
  have q2 : ((m.id : Int) != s.id) = false := by rw [bne_eq_false_iff_eq]; exact a2
  have q3 := neq_m6 m.cl mac false a3
  clear a1 a2 a3
  have p1 : ((s.st : Int) == 1) = false := by rw [beq_eq_false_iff_ne]; exact (by omega)
  have p2 : ((s.st : Int) == 2) = false := by rw [beq_eq_false_iff_ne]; exact (by omega)
  have p4 : ((s.st : Int) == 4) = true := by rw [beq_iff_eq]; exact e1
  have p5 : ((s.st : Int) == 5) = false := by rw [beq_eq_false_iff_ne]; exact (by omega)
  clear e1
  have r1 : ((m.ty : Int) == 5) = false := by rw [beq_eq_false_iff_ne]; exact f1
  have r2 : ((m.ty : Int) == 6) = false := by rw [beq_eq_false_iff_ne]; exact f2
  clear f1 f2
  simp only [Ls.cs]
  go_enter Try.func21, Try.ntmps21
  go_wp2
  generalize w.alloc (.cells #[.int .i64 m.op, .int .u32 m.id, .int .u32 m.yours, .int .u8 m.cl.a, .int .u8 m.cl.b, .int .u8 m.cl.c, .int .u8 m.cl.d, .int .u8 m.cl.e, .int .u8 m.cl.f, .int .i64 m.ty, .int .u32 m.server, .int .u32 m.asked, .int .i64 m.time, .int .u32 m.mask, .int .u32 m.router, .int .u32 m.resolver] 27) = W at M0 hb g0 ⊢
  have d0 : W.cell? ⟨w.heap.size, 0, none⟩ = some (.int .i64 m.op) := Blk.cell M0.out 0
  have d1 : W.cell? ⟨w.heap.size, 1, none⟩ = some (.int .u32 m.id) := Blk.cell M0.out 1
  have d2 : W.cell? ⟨w.heap.size, 2, none⟩ = some (.int .u32 m.yours) := Blk.cell M0.out 2
  have d3 : W.cell? ⟨w.heap.size, 3, none⟩ = some (.int .u8 m.cl.a) := Blk.cell M0.out 3
  have d4 : W.cell? ⟨w.heap.size, 4, none⟩ = some (.int .u8 m.cl.b) := Blk.cell M0.out 4
  have d5 : W.cell? ⟨w.heap.size, 5, none⟩ = some (.int .u8 m.cl.c) := Blk.cell M0.out 5
  have d6 : W.cell? ⟨w.heap.size, 6, none⟩ = some (.int .u8 m.cl.d) := Blk.cell M0.out 6
  have d7 : W.cell? ⟨w.heap.size, 7, none⟩ = some (.int .u8 m.cl.e) := Blk.cell M0.out 7
  have d8 : W.cell? ⟨w.heap.size, 8, none⟩ = some (.int .u8 m.cl.f) := Blk.cell M0.out 8
  have d9 : W.cell? ⟨w.heap.size, 9, none⟩ = some (.int .i64 m.ty) := Blk.cell M0.out 9
  have d10 : W.cell? ⟨w.heap.size, 10, none⟩ = some (.int .u32 m.server) := Blk.cell M0.out 10
  have d11 : W.cell? ⟨w.heap.size, 11, none⟩ = some (.int .u32 m.asked) := Blk.cell M0.out 11
  have d12 : W.cell? ⟨w.heap.size, 12, none⟩ = some (.int .i64 m.time) := Blk.cell M0.out 12
  have d13 : W.cell? ⟨w.heap.size, 13, none⟩ = some (.int .u32 m.mask) := Blk.cell M0.out 13
  have d14 : W.cell? ⟨w.heap.size, 14, none⟩ = some (.int .u32 m.router) := Blk.cell M0.out 14
  have d15 : W.cell? ⟨w.heap.size, 15, none⟩ = some (.int .u32 m.resolver) := Blk.cell M0.out 15
  have c0 : W.cell? ⟨b, 0, none⟩ = some (.int .u8 mac.a) := Blk.cell hb.out 0
  have c1 : W.cell? ⟨b, 1, none⟩ = some (.int .u8 mac.b) := Blk.cell hb.out 1
  have c2 : W.cell? ⟨b, 2, none⟩ = some (.int .u8 mac.c) := Blk.cell hb.out 2
  have c3 : W.cell? ⟨b, 3, none⟩ = some (.int .u8 mac.d) := Blk.cell hb.out 3
  have c4 : W.cell? ⟨b, 4, none⟩ = some (.int .u8 mac.e) := Blk.cell hb.out 4
  have c5 : W.cell? ⟨b, 5, none⟩ = some (.int .u8 mac.f) := Blk.cell hb.out 5
  have c6 : W.cell? ⟨b, 6, none⟩ = some (.int .i64 s.st) := Blk.cell hb.out 6
  have c7 : W.cell? ⟨b, 7, none⟩ = some (.int .u32 s.id) := Blk.cell hb.out 7
  have c12 : W.cell? ⟨b, 12, none⟩ = some (.int .u32 s.offer.yours) := Blk.cell hb.out 12
  have c20 : W.cell? ⟨b, 20, none⟩ = some (.int .u32 s.offer.server) := Blk.cell hb.out 20
  have c28 : W.cell? ⟨b, 28, none⟩ = some (.int .u32 s.lease.yours) := Blk.cell hb.out 28
  have c36 : W.cell? ⟨b, 36, none⟩ = some (.int .u32 s.lease.server) := Blk.cell hb.out 36
  go_quiet (fail)
  go_wp2
  go_quiet (fail)
  go_wp2
  go_ret
  exact ⟨_, rfl, rfl, (by exact hb.out), (by repeat' (first | exact g0.out | refine only_drewN ?_ _))⟩
set_option maxRecDepth 100000 in
set_option maxHeartbeats 3200000 in
theorem hearF_4y (b : Nat) (mac : M6) (s : St) (m : Ls) (now draw : Int) (w : World) (h : IsRf w b mac s) (h0 : 0 ≤ now) (h1 : now ≤ 1152921504606846976)
    (a1 : m.op = 2) (a2 : m.id = s.id) (a3 : (m.cl.l != mac.l) = false) (e1 : s.st = 4) (f1 : m.ty = 5) (f2 : m.yours ≠ s.lease.yours) :
    Calls Try.prog 21 #[.pointer (some ⟨b, 0, none⟩), .agg m.cs.toArray, .int .i64 now, .int .i64 draw] w fun e w' => DoesR w w' b mac s none e := by
  have M0 : Hid (Blk (w.alloc (.cells #[.int .i64 m.op, .int .u32 m.id, .int .u32 m.yours, .int .u8 m.cl.a, .int .u8 m.cl.b, .int .u8 m.cl.c, .int .u8 m.cl.d, .int .u8 m.cl.e, .int .u8 m.cl.f, .int .i64 m.ty, .int .u32 m.server, .int .u32 m.asked, .int .i64 m.time, .int .u32 m.mask, .int .u32 m.router, .int .u32 m.resolver] 27)) w.heap.size 27 m.cs.toArray) := Blk.new _ _ _
  have hb := Lib.hid (h.nx (al (rf w) (.cells #[.int .i64 m.op, .int .u32 m.id, .int .u32 m.yours, .int .u8 m.cl.a, .int .u8 m.cl.b, .int .u8 m.cl.c, .int .u8 m.cl.d, .int .u8 m.cl.e, .int .u8 m.cl.f, .int .i64 m.ty, .int .u32 m.server, .int .u32 m.asked, .int .i64 m.time, .int .u32 m.mask, .int .u32 m.router, .int .u32 m.resolver] 27)))
  have g0 : Hid (w.grownBy (w.alloc (.cells #[.int .i64 m.op, .int .u32 m.id, .int .u32 m.yours, .int .u8 m.cl.a, .int .u8 m.cl.b, .int .u8 m.cl.c, .int .u8 m.cl.d, .int .u8 m.cl.e, .int .u8 m.cl.f, .int .i64 m.ty, .int .u32 m.server, .int .u32 m.asked, .int .i64 m.time, .int .u32 m.mask, .int .u32 m.router, .int .u32 m.resolver] 27)) (some b)) := only_alloc (World.grownBy.refl _ _) _
  have hz : Hid (b < w.heap.size) := Blk.lt h
  have q1 : ((m.op : Int) != 2) = false := by rw [bne_eq_false_iff_eq]; exact a1
  have q2 : ((m.id : Int) != s.id) = false := by rw [bne_eq_false_iff_eq]; exact a2
  have q3 := neq_m6 m.cl mac false a3
  clear a1 a2 a3
  have p1 : ((s.st : Int) == 1) = false := by rw [beq_eq_false_iff_ne]; exact (by omega)
  have p2 : ((s.st : Int) == 2) = false := by rw [beq_eq_false_iff_ne]; exact (by omega)
  have p4 : ((s.st : Int) == 4) = true := by rw [beq_iff_eq]; exact e1
  have p5 : ((s.st : Int) == 5) = false := by rw [beq_eq_false_iff_ne]; exact (by omega)
  clear e1
  have r1 : ((m.ty : Int) == 5) = true := by rw [beq_iff_eq]; exact f1
  have r2 : ((m.ty : Int) == 6) = false := by rw [beq_eq_false_iff_ne]; exact (by omega)
  have r3 : ((m.yours : Int) == s.lease.yours) = false := by rw [beq_eq_false_iff_ne]; exact f2
  clear f1 f2
  simp only [Ls.cs]
  go_enter Try.func21, Try.ntmps21
  go_wp2
  generalize w.alloc (.cells #[.int .i64 m.op, .int .u32 m.id, .int .u32 m.yours, .int .u8 m.cl.a, .int .u8 m.cl.b, .int .u8 m.cl.c, .int .u8 m.cl.d, .int .u8 m.cl.e, .int .u8 m.cl.f, .int .i64 m.ty, .int .u32 m.server, .int .u32 m.asked, .int .i64 m.time, .int .u32 m.mask, .int .u32 m.router, .int .u32 m.resolver] 27) = W at M0 hb g0 ⊢
  have d0 : W.cell? ⟨w.heap.size, 0, none⟩ = some (.int .i64 m.op) := Blk.cell M0.out 0
  have d1 : W.cell? ⟨w.heap.size, 1, none⟩ = some (.int .u32 m.id) := Blk.cell M0.out 1
  have d2 : W.cell? ⟨w.heap.size, 2, none⟩ = some (.int .u32 m.yours) := Blk.cell M0.out 2
  have d3 : W.cell? ⟨w.heap.size, 3, none⟩ = some (.int .u8 m.cl.a) := Blk.cell M0.out 3
  have d4 : W.cell? ⟨w.heap.size, 4, none⟩ = some (.int .u8 m.cl.b) := Blk.cell M0.out 4
  have d5 : W.cell? ⟨w.heap.size, 5, none⟩ = some (.int .u8 m.cl.c) := Blk.cell M0.out 5
  have d6 : W.cell? ⟨w.heap.size, 6, none⟩ = some (.int .u8 m.cl.d) := Blk.cell M0.out 6
  have d7 : W.cell? ⟨w.heap.size, 7, none⟩ = some (.int .u8 m.cl.e) := Blk.cell M0.out 7
  have d8 : W.cell? ⟨w.heap.size, 8, none⟩ = some (.int .u8 m.cl.f) := Blk.cell M0.out 8
  have d9 : W.cell? ⟨w.heap.size, 9, none⟩ = some (.int .i64 m.ty) := Blk.cell M0.out 9
  have d10 : W.cell? ⟨w.heap.size, 10, none⟩ = some (.int .u32 m.server) := Blk.cell M0.out 10
  have d11 : W.cell? ⟨w.heap.size, 11, none⟩ = some (.int .u32 m.asked) := Blk.cell M0.out 11
  have d12 : W.cell? ⟨w.heap.size, 12, none⟩ = some (.int .i64 m.time) := Blk.cell M0.out 12
  have d13 : W.cell? ⟨w.heap.size, 13, none⟩ = some (.int .u32 m.mask) := Blk.cell M0.out 13
  have d14 : W.cell? ⟨w.heap.size, 14, none⟩ = some (.int .u32 m.router) := Blk.cell M0.out 14
  have d15 : W.cell? ⟨w.heap.size, 15, none⟩ = some (.int .u32 m.resolver) := Blk.cell M0.out 15
  have c0 : W.cell? ⟨b, 0, none⟩ = some (.int .u8 mac.a) := Blk.cell hb.out 0
  have c1 : W.cell? ⟨b, 1, none⟩ = some (.int .u8 mac.b) := Blk.cell hb.out 1
  have c2 : W.cell? ⟨b, 2, none⟩ = some (.int .u8 mac.c) := Blk.cell hb.out 2
  have c3 : W.cell? ⟨b, 3, none⟩ = some (.int .u8 mac.d) := Blk.cell hb.out 3
  have c4 : W.cell? ⟨b, 4, none⟩ = some (.int .u8 mac.e) := Blk.cell hb.out 4
  have c5 : W.cell? ⟨b, 5, none⟩ = some (.int .u8 mac.f) := Blk.cell hb.out 5
  have c6 : W.cell? ⟨b, 6, none⟩ = some (.int .i64 s.st) := Blk.cell hb.out 6
  have c7 : W.cell? ⟨b, 7, none⟩ = some (.int .u32 s.id) := Blk.cell hb.out 7
  have c12 : W.cell? ⟨b, 12, none⟩ = some (.int .u32 s.offer.yours) := Blk.cell hb.out 12
  have c20 : W.cell? ⟨b, 20, none⟩ = some (.int .u32 s.offer.server) := Blk.cell hb.out 20
  have c28 : W.cell? ⟨b, 28, none⟩ = some (.int .u32 s.lease.yours) := Blk.cell hb.out 28
  have c36 : W.cell? ⟨b, 36, none⟩ = some (.int .u32 s.lease.server) := Blk.cell hb.out 36
  go_quiet (fail)
  go_wp2
  go_quiet (fail)
  go_wp2
  go_ret
  exact ⟨_, rfl, rfl, (by exact hb.out), (by repeat' (first | exact g0.out | refine only_drewN ?_ _))⟩
set_option maxRecDepth 100000 in
set_option maxHeartbeats 3200000 in
theorem hearF_4r (b : Nat) (mac : M6) (s : St) (m : Ls) (now draw : Int) (w : World) (h : IsRf w b mac s) (h0 : 0 ≤ now) (h1 : now ≤ 1152921504606846976)
    (a1 : m.op = 2) (a2 : m.id = s.id) (a3 : (m.cl.l != mac.l) = false) (e1 : s.st = 4) (f1 : m.ty = 6) :
    Calls Try.prog 21 #[.pointer (some ⟨b, 0, none⟩), .agg m.cs.toArray, .int .i64 now, .int .i64 draw] w fun e w' => DoesR w w' b mac (beginF s now draw) (some (says mac (draw % 4294967296) 1 0 0)) e := by
  have M0 : Hid (Blk (w.alloc (.cells #[.int .i64 m.op, .int .u32 m.id, .int .u32 m.yours, .int .u8 m.cl.a, .int .u8 m.cl.b, .int .u8 m.cl.c, .int .u8 m.cl.d, .int .u8 m.cl.e, .int .u8 m.cl.f, .int .i64 m.ty, .int .u32 m.server, .int .u32 m.asked, .int .i64 m.time, .int .u32 m.mask, .int .u32 m.router, .int .u32 m.resolver] 27)) w.heap.size 27 m.cs.toArray) := Blk.new _ _ _
  have hb := Lib.hid (h.nx (al (rf w) (.cells #[.int .i64 m.op, .int .u32 m.id, .int .u32 m.yours, .int .u8 m.cl.a, .int .u8 m.cl.b, .int .u8 m.cl.c, .int .u8 m.cl.d, .int .u8 m.cl.e, .int .u8 m.cl.f, .int .i64 m.ty, .int .u32 m.server, .int .u32 m.asked, .int .i64 m.time, .int .u32 m.mask, .int .u32 m.router, .int .u32 m.resolver] 27)))
  have g0 : Hid (w.grownBy (w.alloc (.cells #[.int .i64 m.op, .int .u32 m.id, .int .u32 m.yours, .int .u8 m.cl.a, .int .u8 m.cl.b, .int .u8 m.cl.c, .int .u8 m.cl.d, .int .u8 m.cl.e, .int .u8 m.cl.f, .int .i64 m.ty, .int .u32 m.server, .int .u32 m.asked, .int .i64 m.time, .int .u32 m.mask, .int .u32 m.router, .int .u32 m.resolver] 27)) (some b)) := only_alloc (World.grownBy.refl _ _) _
  have hz : Hid (b < w.heap.size) := Blk.lt h
  have q1 : ((m.op : Int) != 2) = false := by rw [bne_eq_false_iff_eq]; exact a1
  have q2 : ((m.id : Int) != s.id) = false := by rw [bne_eq_false_iff_eq]; exact a2
  have q3 := neq_m6 m.cl mac false a3
  clear a1 a2 a3
  have p1 : ((s.st : Int) == 1) = false := by rw [beq_eq_false_iff_ne]; exact (by omega)
  have p2 : ((s.st : Int) == 2) = false := by rw [beq_eq_false_iff_ne]; exact (by omega)
  have p4 : ((s.st : Int) == 4) = true := by rw [beq_iff_eq]; exact e1
  have p5 : ((s.st : Int) == 5) = false := by rw [beq_eq_false_iff_ne]; exact (by omega)
  clear e1
  have r1 : ((m.ty : Int) == 5) = false := by rw [beq_eq_false_iff_ne]; exact (by omega)
  have r2 : ((m.ty : Int) == 6) = true := by rw [beq_iff_eq]; exact f1
  clear f1
  simp only [Ls.cs]
  go_enter Try.func21, Try.ntmps21
  go_wp2
  generalize w.alloc (.cells #[.int .i64 m.op, .int .u32 m.id, .int .u32 m.yours, .int .u8 m.cl.a, .int .u8 m.cl.b, .int .u8 m.cl.c, .int .u8 m.cl.d, .int .u8 m.cl.e, .int .u8 m.cl.f, .int .i64 m.ty, .int .u32 m.server, .int .u32 m.asked, .int .i64 m.time, .int .u32 m.mask, .int .u32 m.router, .int .u32 m.resolver] 27) = W at M0 hb g0 ⊢
  have d0 : W.cell? ⟨w.heap.size, 0, none⟩ = some (.int .i64 m.op) := Blk.cell M0.out 0
  have d1 : W.cell? ⟨w.heap.size, 1, none⟩ = some (.int .u32 m.id) := Blk.cell M0.out 1
  have d2 : W.cell? ⟨w.heap.size, 2, none⟩ = some (.int .u32 m.yours) := Blk.cell M0.out 2
  have d3 : W.cell? ⟨w.heap.size, 3, none⟩ = some (.int .u8 m.cl.a) := Blk.cell M0.out 3
  have d4 : W.cell? ⟨w.heap.size, 4, none⟩ = some (.int .u8 m.cl.b) := Blk.cell M0.out 4
  have d5 : W.cell? ⟨w.heap.size, 5, none⟩ = some (.int .u8 m.cl.c) := Blk.cell M0.out 5
  have d6 : W.cell? ⟨w.heap.size, 6, none⟩ = some (.int .u8 m.cl.d) := Blk.cell M0.out 6
  have d7 : W.cell? ⟨w.heap.size, 7, none⟩ = some (.int .u8 m.cl.e) := Blk.cell M0.out 7
  have d8 : W.cell? ⟨w.heap.size, 8, none⟩ = some (.int .u8 m.cl.f) := Blk.cell M0.out 8
  have d9 : W.cell? ⟨w.heap.size, 9, none⟩ = some (.int .i64 m.ty) := Blk.cell M0.out 9
  have d10 : W.cell? ⟨w.heap.size, 10, none⟩ = some (.int .u32 m.server) := Blk.cell M0.out 10
  have d11 : W.cell? ⟨w.heap.size, 11, none⟩ = some (.int .u32 m.asked) := Blk.cell M0.out 11
  have d12 : W.cell? ⟨w.heap.size, 12, none⟩ = some (.int .i64 m.time) := Blk.cell M0.out 12
  have d13 : W.cell? ⟨w.heap.size, 13, none⟩ = some (.int .u32 m.mask) := Blk.cell M0.out 13
  have d14 : W.cell? ⟨w.heap.size, 14, none⟩ = some (.int .u32 m.router) := Blk.cell M0.out 14
  have d15 : W.cell? ⟨w.heap.size, 15, none⟩ = some (.int .u32 m.resolver) := Blk.cell M0.out 15
  have c0 : W.cell? ⟨b, 0, none⟩ = some (.int .u8 mac.a) := Blk.cell hb.out 0
  have c1 : W.cell? ⟨b, 1, none⟩ = some (.int .u8 mac.b) := Blk.cell hb.out 1
  have c2 : W.cell? ⟨b, 2, none⟩ = some (.int .u8 mac.c) := Blk.cell hb.out 2
  have c3 : W.cell? ⟨b, 3, none⟩ = some (.int .u8 mac.d) := Blk.cell hb.out 3
  have c4 : W.cell? ⟨b, 4, none⟩ = some (.int .u8 mac.e) := Blk.cell hb.out 4
  have c5 : W.cell? ⟨b, 5, none⟩ = some (.int .u8 mac.f) := Blk.cell hb.out 5
  have c6 : W.cell? ⟨b, 6, none⟩ = some (.int .i64 s.st) := Blk.cell hb.out 6
  have c7 : W.cell? ⟨b, 7, none⟩ = some (.int .u32 s.id) := Blk.cell hb.out 7
  have c12 : W.cell? ⟨b, 12, none⟩ = some (.int .u32 s.offer.yours) := Blk.cell hb.out 12
  have c20 : W.cell? ⟨b, 20, none⟩ = some (.int .u32 s.offer.server) := Blk.cell hb.out 20
  have c28 : W.cell? ⟨b, 28, none⟩ = some (.int .u32 s.lease.yours) := Blk.cell hb.out 28
  have c36 : W.cell? ⟨b, 36, none⟩ = some (.int .u32 s.lease.server) := Blk.cell hb.out 36
  go_quiet (fail)
  go_wp2
  go_quiet (fail)
  go_wp2_with fail
  refine (beginF_ b mac s now draw _ (by exact hb.out) h0 h1).mono ?_
  rintro e w1 ⟨v, rfl, ho, hC, hg⟩
  go_wp2
  go_ret
  exact ⟨v, rfl, ho.more (by exact g0.out.size), hC, only_trans (by repeat' (first | exact g0.out | refine only_drewN ?_ _)) hg⟩
set_option maxRecDepth 100000 in
set_option maxHeartbeats 3200000 in
theorem hearF_4b (b : Nat) (mac : M6) (s : St) (m : Ls) (now draw : Int) (w : World) (h : IsRf w b mac s) (h0 : 0 ≤ now) (h1 : now ≤ 1152921504606846976)
    (a1 : m.op = 2) (a2 : m.id = s.id) (a3 : (m.cl.l != mac.l) = false) (e1 : s.st = 4) (f1 : m.ty = 5) (f2 : m.yours = s.lease.yours) :
    Calls Try.prog 21 #[.pointer (some ⟨b, 0, none⟩), .agg m.cs.toArray, .int .i64 now, .int .i64 draw] w fun e w' => DoesR w w' b mac (bindS s m s.lease.server now) none e := by
  have M0 : Hid (Blk (w.alloc (.cells #[.int .i64 m.op, .int .u32 m.id, .int .u32 m.yours, .int .u8 m.cl.a, .int .u8 m.cl.b, .int .u8 m.cl.c, .int .u8 m.cl.d, .int .u8 m.cl.e, .int .u8 m.cl.f, .int .i64 m.ty, .int .u32 m.server, .int .u32 m.asked, .int .i64 m.time, .int .u32 m.mask, .int .u32 m.router, .int .u32 m.resolver] 27)) w.heap.size 27 m.cs.toArray) := Blk.new _ _ _
  have hb := Lib.hid (h.nx (al (rf w) (.cells #[.int .i64 m.op, .int .u32 m.id, .int .u32 m.yours, .int .u8 m.cl.a, .int .u8 m.cl.b, .int .u8 m.cl.c, .int .u8 m.cl.d, .int .u8 m.cl.e, .int .u8 m.cl.f, .int .i64 m.ty, .int .u32 m.server, .int .u32 m.asked, .int .i64 m.time, .int .u32 m.mask, .int .u32 m.router, .int .u32 m.resolver] 27)))
  have g0 : Hid (w.grownBy (w.alloc (.cells #[.int .i64 m.op, .int .u32 m.id, .int .u32 m.yours, .int .u8 m.cl.a, .int .u8 m.cl.b, .int .u8 m.cl.c, .int .u8 m.cl.d, .int .u8 m.cl.e, .int .u8 m.cl.f, .int .i64 m.ty, .int .u32 m.server, .int .u32 m.asked, .int .i64 m.time, .int .u32 m.mask, .int .u32 m.router, .int .u32 m.resolver] 27)) (some b)) := only_alloc (World.grownBy.refl _ _) _
  have hz : Hid (b < w.heap.size) := Blk.lt h
  have q1 : ((m.op : Int) != 2) = false := by rw [bne_eq_false_iff_eq]; exact a1
  have q2 : ((m.id : Int) != s.id) = false := by rw [bne_eq_false_iff_eq]; exact a2
  have q3 := neq_m6 m.cl mac false a3
  clear a1 a2 a3
  have p1 : ((s.st : Int) == 1) = false := by rw [beq_eq_false_iff_ne]; exact (by omega)
  have p2 : ((s.st : Int) == 2) = false := by rw [beq_eq_false_iff_ne]; exact (by omega)
  have p4 : ((s.st : Int) == 4) = true := by rw [beq_iff_eq]; exact e1
  have p5 : ((s.st : Int) == 5) = false := by rw [beq_eq_false_iff_ne]; exact (by omega)
  clear e1
  have r1 : ((m.ty : Int) == 5) = true := by rw [beq_iff_eq]; exact f1
  have r2 : ((m.ty : Int) == 6) = false := by rw [beq_eq_false_iff_ne]; exact (by omega)
  have r3 : ((m.yours : Int) == s.lease.yours) = true := by rw [beq_iff_eq]; exact f2
  clear f1 f2
  simp only [Ls.cs]
  go_enter Try.func21, Try.ntmps21
  go_wp2
  generalize w.alloc (.cells #[.int .i64 m.op, .int .u32 m.id, .int .u32 m.yours, .int .u8 m.cl.a, .int .u8 m.cl.b, .int .u8 m.cl.c, .int .u8 m.cl.d, .int .u8 m.cl.e, .int .u8 m.cl.f, .int .i64 m.ty, .int .u32 m.server, .int .u32 m.asked, .int .i64 m.time, .int .u32 m.mask, .int .u32 m.router, .int .u32 m.resolver] 27) = W at M0 hb g0 ⊢
  have d0 : W.cell? ⟨w.heap.size, 0, none⟩ = some (.int .i64 m.op) := Blk.cell M0.out 0
  have d1 : W.cell? ⟨w.heap.size, 1, none⟩ = some (.int .u32 m.id) := Blk.cell M0.out 1
  have d2 : W.cell? ⟨w.heap.size, 2, none⟩ = some (.int .u32 m.yours) := Blk.cell M0.out 2
  have d3 : W.cell? ⟨w.heap.size, 3, none⟩ = some (.int .u8 m.cl.a) := Blk.cell M0.out 3
  have d4 : W.cell? ⟨w.heap.size, 4, none⟩ = some (.int .u8 m.cl.b) := Blk.cell M0.out 4
  have d5 : W.cell? ⟨w.heap.size, 5, none⟩ = some (.int .u8 m.cl.c) := Blk.cell M0.out 5
  have d6 : W.cell? ⟨w.heap.size, 6, none⟩ = some (.int .u8 m.cl.d) := Blk.cell M0.out 6
  have d7 : W.cell? ⟨w.heap.size, 7, none⟩ = some (.int .u8 m.cl.e) := Blk.cell M0.out 7
  have d8 : W.cell? ⟨w.heap.size, 8, none⟩ = some (.int .u8 m.cl.f) := Blk.cell M0.out 8
  have d9 : W.cell? ⟨w.heap.size, 9, none⟩ = some (.int .i64 m.ty) := Blk.cell M0.out 9
  have d10 : W.cell? ⟨w.heap.size, 10, none⟩ = some (.int .u32 m.server) := Blk.cell M0.out 10
  have d11 : W.cell? ⟨w.heap.size, 11, none⟩ = some (.int .u32 m.asked) := Blk.cell M0.out 11
  have d12 : W.cell? ⟨w.heap.size, 12, none⟩ = some (.int .i64 m.time) := Blk.cell M0.out 12
  have d13 : W.cell? ⟨w.heap.size, 13, none⟩ = some (.int .u32 m.mask) := Blk.cell M0.out 13
  have d14 : W.cell? ⟨w.heap.size, 14, none⟩ = some (.int .u32 m.router) := Blk.cell M0.out 14
  have d15 : W.cell? ⟨w.heap.size, 15, none⟩ = some (.int .u32 m.resolver) := Blk.cell M0.out 15
  have c0 : W.cell? ⟨b, 0, none⟩ = some (.int .u8 mac.a) := Blk.cell hb.out 0
  have c1 : W.cell? ⟨b, 1, none⟩ = some (.int .u8 mac.b) := Blk.cell hb.out 1
  have c2 : W.cell? ⟨b, 2, none⟩ = some (.int .u8 mac.c) := Blk.cell hb.out 2
  have c3 : W.cell? ⟨b, 3, none⟩ = some (.int .u8 mac.d) := Blk.cell hb.out 3
  have c4 : W.cell? ⟨b, 4, none⟩ = some (.int .u8 mac.e) := Blk.cell hb.out 4
  have c5 : W.cell? ⟨b, 5, none⟩ = some (.int .u8 mac.f) := Blk.cell hb.out 5
  have c6 : W.cell? ⟨b, 6, none⟩ = some (.int .i64 s.st) := Blk.cell hb.out 6
  have c7 : W.cell? ⟨b, 7, none⟩ = some (.int .u32 s.id) := Blk.cell hb.out 7
  have c12 : W.cell? ⟨b, 12, none⟩ = some (.int .u32 s.offer.yours) := Blk.cell hb.out 12
  have c20 : W.cell? ⟨b, 20, none⟩ = some (.int .u32 s.offer.server) := Blk.cell hb.out 20
  have c28 : W.cell? ⟨b, 28, none⟩ = some (.int .u32 s.lease.yours) := Blk.cell hb.out 28
  have c36 : W.cell? ⟨b, 36, none⟩ = some (.int .u32 s.lease.server) := Blk.cell hb.out 36
  go_quiet (fail)
  go_wp2
  go_quiet (fail)
  go_wp2
  refine over_draws (F := fun W => Code.wp _ _ _ _ W) (fun W0 hW0 => ?_)
  have e0 : W0.cell? ⟨w.heap.size, 0, none⟩ = some (.int .i64 m.op) := by rw [hW0]; exact d0
  have e1 : W0.cell? ⟨w.heap.size, 1, none⟩ = some (.int .u32 m.id) := by rw [hW0]; exact d1
  have e2 : W0.cell? ⟨w.heap.size, 2, none⟩ = some (.int .u32 m.yours) := by rw [hW0]; exact d2
  have e3 : W0.cell? ⟨w.heap.size, 3, none⟩ = some (.int .u8 m.cl.a) := by rw [hW0]; exact d3
  have e4 : W0.cell? ⟨w.heap.size, 4, none⟩ = some (.int .u8 m.cl.b) := by rw [hW0]; exact d4
  have e5 : W0.cell? ⟨w.heap.size, 5, none⟩ = some (.int .u8 m.cl.c) := by rw [hW0]; exact d5
  have e6 : W0.cell? ⟨w.heap.size, 6, none⟩ = some (.int .u8 m.cl.d) := by rw [hW0]; exact d6
  have e7 : W0.cell? ⟨w.heap.size, 7, none⟩ = some (.int .u8 m.cl.e) := by rw [hW0]; exact d7
  have e8 : W0.cell? ⟨w.heap.size, 8, none⟩ = some (.int .u8 m.cl.f) := by rw [hW0]; exact d8
  have e9 : W0.cell? ⟨w.heap.size, 9, none⟩ = some (.int .i64 m.ty) := by rw [hW0]; exact d9
  have e10 : W0.cell? ⟨w.heap.size, 10, none⟩ = some (.int .u32 m.server) := by rw [hW0]; exact d10
  have e11 : W0.cell? ⟨w.heap.size, 11, none⟩ = some (.int .u32 m.asked) := by rw [hW0]; exact d11
  have e12 : W0.cell? ⟨w.heap.size, 12, none⟩ = some (.int .i64 m.time) := by rw [hW0]; exact d12
  have e13 : W0.cell? ⟨w.heap.size, 13, none⟩ = some (.int .u32 m.mask) := by rw [hW0]; exact d13
  have e14 : W0.cell? ⟨w.heap.size, 14, none⟩ = some (.int .u32 m.router) := by rw [hW0]; exact d14
  have e15 : W0.cell? ⟨w.heap.size, 15, none⟩ = some (.int .u32 m.resolver) := by rw [hW0]; exact d15
  have es : W0.cell? ⟨b, 36, none⟩ = some (.int .u32 s.lease.server) := by rw [hW0]; exact c36
  have hI0 : IsRf W0 b mac s := by rw [hW0]; exact hb.out
  have hM0 : Blk W0 w.heap.size 27 m.cs.toArray := by rw [hW0]; exact M0.out
  have hG0 : w.grownBy W0 (some b) := by rw [hW0]; exact (by repeat' (first | exact g0.out | refine only_drewN ?_ _))
  clear hW0 d0 d1 d2 d3 d4 d5 d6 d7 d8 d9 d10 d11 d12 d13 d14 d15 c0 c1 c2 c3 c4 c5 c6 c7 c12 c20 c28 c36 hb M0 g0
  have hx : ∀ (a : Addr) (n : Nat), ({ W0 with drawn := n } : World).cell? a = W0.cell? a := fun _ _ => rfl
  go_still_tail 8, (by kernel_rfl)
  clear hx
  change wpList _ _ _ _ _ (World.drew _)
  generalize hW : World.drew _ = V
  have hI : IsRf V b mac s := by rw [← hW]; exact hI0
  have hM : Hid (Blk V w.heap.size 27 m.cs.toArray) := by rw [← hW]; exact hM0
  have hG : w.grownBy V (some b) := by rw [← hW]; exact only_drew hG0
  clear hW
  go_wp2_with fail
  refine (bindsF b mac s m s.lease.server now _ hI h0 h1).mono ?_
  rintro e w1 ⟨rfl, hC, hg⟩
  have hM1 : Blk w1 w.heap.size 27 m.cs.toArray := Blk.only hM.out hg (by have := hz.out; omega)
  have k9 : w1.cell? ⟨w.heap.size, 9, none⟩ = some (.int .i64 m.ty) := hM1.cell 9
  go_wp2
  go_ret
  exact ⟨_, rfl, rfl, hC, only_trans hG hg⟩
set_option maxRecDepth 100000 in
set_option maxHeartbeats 3200000 in
theorem hearF_5t (b : Nat) (mac : M6) (s : St) (m : Ls) (now draw : Int) (w : World) (h : IsRf w b mac s) (h0 : 0 ≤ now) (h1 : now ≤ 1152921504606846976)
    (a1 : m.op = 2) (a2 : m.id = s.id) (a3 : (m.cl.l != mac.l) = false) (e1 : s.st = 5) (f1 : m.ty ≠ 5) (f2 : m.ty ≠ 6) :
    Calls Try.prog 21 #[.pointer (some ⟨b, 0, none⟩), .agg m.cs.toArray, .int .i64 now, .int .i64 draw] w fun e w' => DoesR w w' b mac s none e := by
  have M0 : Hid (Blk (w.alloc (.cells #[.int .i64 m.op, .int .u32 m.id, .int .u32 m.yours, .int .u8 m.cl.a, .int .u8 m.cl.b, .int .u8 m.cl.c, .int .u8 m.cl.d, .int .u8 m.cl.e, .int .u8 m.cl.f, .int .i64 m.ty, .int .u32 m.server, .int .u32 m.asked, .int .i64 m.time, .int .u32 m.mask, .int .u32 m.router, .int .u32 m.resolver] 27)) w.heap.size 27 m.cs.toArray) := Blk.new _ _ _
  have hb := Lib.hid (h.nx (al (rf w) (.cells #[.int .i64 m.op, .int .u32 m.id, .int .u32 m.yours, .int .u8 m.cl.a, .int .u8 m.cl.b, .int .u8 m.cl.c, .int .u8 m.cl.d, .int .u8 m.cl.e, .int .u8 m.cl.f, .int .i64 m.ty, .int .u32 m.server, .int .u32 m.asked, .int .i64 m.time, .int .u32 m.mask, .int .u32 m.router, .int .u32 m.resolver] 27)))
  have g0 : Hid (w.grownBy (w.alloc (.cells #[.int .i64 m.op, .int .u32 m.id, .int .u32 m.yours, .int .u8 m.cl.a, .int .u8 m.cl.b, .int .u8 m.cl.c, .int .u8 m.cl.d, .int .u8 m.cl.e, .int .u8 m.cl.f, .int .i64 m.ty, .int .u32 m.server, .int .u32 m.asked, .int .i64 m.time, .int .u32 m.mask, .int .u32 m.router, .int .u32 m.resolver] 27)) (some b)) := only_alloc (World.grownBy.refl _ _) _
  have hz : Hid (b < w.heap.size) := Blk.lt h
  have q1 : ((m.op : Int) != 2) = false := by rw [bne_eq_false_iff_eq]; exact a1
  have q2 : ((m.id : Int) != s.id) = false := by rw [bne_eq_false_iff_eq]; exact a2
  have q3 := neq_m6 m.cl mac false a3
  clear a1 a2 a3
  have p1 : ((s.st : Int) == 1) = false := by rw [beq_eq_false_iff_ne]; exact (by omega)
  have p2 : ((s.st : Int) == 2) = false := by rw [beq_eq_false_iff_ne]; exact (by omega)
  have p4 : ((s.st : Int) == 4) = false := by rw [beq_eq_false_iff_ne]; exact (by omega)
  have p5 : ((s.st : Int) == 5) = true := by rw [beq_iff_eq]; exact e1
  clear e1
  have r1 : ((m.ty : Int) == 5) = false := by rw [beq_eq_false_iff_ne]; exact f1
  have r2 : ((m.ty : Int) == 6) = false := by rw [beq_eq_false_iff_ne]; exact f2
  clear f1 f2
  simp only [Ls.cs]
  go_enter Try.func21, Try.ntmps21
  go_wp2
  generalize w.alloc (.cells #[.int .i64 m.op, .int .u32 m.id, .int .u32 m.yours, .int .u8 m.cl.a, .int .u8 m.cl.b, .int .u8 m.cl.c, .int .u8 m.cl.d, .int .u8 m.cl.e, .int .u8 m.cl.f, .int .i64 m.ty, .int .u32 m.server, .int .u32 m.asked, .int .i64 m.time, .int .u32 m.mask, .int .u32 m.router, .int .u32 m.resolver] 27) = W at M0 hb g0 ⊢
  have d0 : W.cell? ⟨w.heap.size, 0, none⟩ = some (.int .i64 m.op) := Blk.cell M0.out 0
  have d1 : W.cell? ⟨w.heap.size, 1, none⟩ = some (.int .u32 m.id) := Blk.cell M0.out 1
  have d2 : W.cell? ⟨w.heap.size, 2, none⟩ = some (.int .u32 m.yours) := Blk.cell M0.out 2
  have d3 : W.cell? ⟨w.heap.size, 3, none⟩ = some (.int .u8 m.cl.a) := Blk.cell M0.out 3
  have d4 : W.cell? ⟨w.heap.size, 4, none⟩ = some (.int .u8 m.cl.b) := Blk.cell M0.out 4
  have d5 : W.cell? ⟨w.heap.size, 5, none⟩ = some (.int .u8 m.cl.c) := Blk.cell M0.out 5
  have d6 : W.cell? ⟨w.heap.size, 6, none⟩ = some (.int .u8 m.cl.d) := Blk.cell M0.out 6
  have d7 : W.cell? ⟨w.heap.size, 7, none⟩ = some (.int .u8 m.cl.e) := Blk.cell M0.out 7
  have d8 : W.cell? ⟨w.heap.size, 8, none⟩ = some (.int .u8 m.cl.f) := Blk.cell M0.out 8
  have d9 : W.cell? ⟨w.heap.size, 9, none⟩ = some (.int .i64 m.ty) := Blk.cell M0.out 9
  have d10 : W.cell? ⟨w.heap.size, 10, none⟩ = some (.int .u32 m.server) := Blk.cell M0.out 10
  have d11 : W.cell? ⟨w.heap.size, 11, none⟩ = some (.int .u32 m.asked) := Blk.cell M0.out 11
  have d12 : W.cell? ⟨w.heap.size, 12, none⟩ = some (.int .i64 m.time) := Blk.cell M0.out 12
  have d13 : W.cell? ⟨w.heap.size, 13, none⟩ = some (.int .u32 m.mask) := Blk.cell M0.out 13
  have d14 : W.cell? ⟨w.heap.size, 14, none⟩ = some (.int .u32 m.router) := Blk.cell M0.out 14
  have d15 : W.cell? ⟨w.heap.size, 15, none⟩ = some (.int .u32 m.resolver) := Blk.cell M0.out 15
  have c0 : W.cell? ⟨b, 0, none⟩ = some (.int .u8 mac.a) := Blk.cell hb.out 0
  have c1 : W.cell? ⟨b, 1, none⟩ = some (.int .u8 mac.b) := Blk.cell hb.out 1
  have c2 : W.cell? ⟨b, 2, none⟩ = some (.int .u8 mac.c) := Blk.cell hb.out 2
  have c3 : W.cell? ⟨b, 3, none⟩ = some (.int .u8 mac.d) := Blk.cell hb.out 3
  have c4 : W.cell? ⟨b, 4, none⟩ = some (.int .u8 mac.e) := Blk.cell hb.out 4
  have c5 : W.cell? ⟨b, 5, none⟩ = some (.int .u8 mac.f) := Blk.cell hb.out 5
  have c6 : W.cell? ⟨b, 6, none⟩ = some (.int .i64 s.st) := Blk.cell hb.out 6
  have c7 : W.cell? ⟨b, 7, none⟩ = some (.int .u32 s.id) := Blk.cell hb.out 7
  have c12 : W.cell? ⟨b, 12, none⟩ = some (.int .u32 s.offer.yours) := Blk.cell hb.out 12
  have c20 : W.cell? ⟨b, 20, none⟩ = some (.int .u32 s.offer.server) := Blk.cell hb.out 20
  have c28 : W.cell? ⟨b, 28, none⟩ = some (.int .u32 s.lease.yours) := Blk.cell hb.out 28
  have c36 : W.cell? ⟨b, 36, none⟩ = some (.int .u32 s.lease.server) := Blk.cell hb.out 36
  go_quiet (fail)
  go_wp2
  go_quiet (fail)
  go_wp2
  go_ret
  exact ⟨_, rfl, rfl, (by exact hb.out), (by repeat' (first | exact g0.out | refine only_drewN ?_ _))⟩
set_option maxRecDepth 100000 in
set_option maxHeartbeats 3200000 in
theorem hearF_5y (b : Nat) (mac : M6) (s : St) (m : Ls) (now draw : Int) (w : World) (h : IsRf w b mac s) (h0 : 0 ≤ now) (h1 : now ≤ 1152921504606846976)
    (a1 : m.op = 2) (a2 : m.id = s.id) (a3 : (m.cl.l != mac.l) = false) (e1 : s.st = 5) (f1 : m.ty = 5) (f2 : m.yours ≠ s.lease.yours) :
    Calls Try.prog 21 #[.pointer (some ⟨b, 0, none⟩), .agg m.cs.toArray, .int .i64 now, .int .i64 draw] w fun e w' => DoesR w w' b mac s none e := by
  have M0 : Hid (Blk (w.alloc (.cells #[.int .i64 m.op, .int .u32 m.id, .int .u32 m.yours, .int .u8 m.cl.a, .int .u8 m.cl.b, .int .u8 m.cl.c, .int .u8 m.cl.d, .int .u8 m.cl.e, .int .u8 m.cl.f, .int .i64 m.ty, .int .u32 m.server, .int .u32 m.asked, .int .i64 m.time, .int .u32 m.mask, .int .u32 m.router, .int .u32 m.resolver] 27)) w.heap.size 27 m.cs.toArray) := Blk.new _ _ _
  have hb := Lib.hid (h.nx (al (rf w) (.cells #[.int .i64 m.op, .int .u32 m.id, .int .u32 m.yours, .int .u8 m.cl.a, .int .u8 m.cl.b, .int .u8 m.cl.c, .int .u8 m.cl.d, .int .u8 m.cl.e, .int .u8 m.cl.f, .int .i64 m.ty, .int .u32 m.server, .int .u32 m.asked, .int .i64 m.time, .int .u32 m.mask, .int .u32 m.router, .int .u32 m.resolver] 27)))
  have g0 : Hid (w.grownBy (w.alloc (.cells #[.int .i64 m.op, .int .u32 m.id, .int .u32 m.yours, .int .u8 m.cl.a, .int .u8 m.cl.b, .int .u8 m.cl.c, .int .u8 m.cl.d, .int .u8 m.cl.e, .int .u8 m.cl.f, .int .i64 m.ty, .int .u32 m.server, .int .u32 m.asked, .int .i64 m.time, .int .u32 m.mask, .int .u32 m.router, .int .u32 m.resolver] 27)) (some b)) := only_alloc (World.grownBy.refl _ _) _
  have hz : Hid (b < w.heap.size) := Blk.lt h
  have q1 : ((m.op : Int) != 2) = false := by rw [bne_eq_false_iff_eq]; exact a1
  have q2 : ((m.id : Int) != s.id) = false := by rw [bne_eq_false_iff_eq]; exact a2
  have q3 := neq_m6 m.cl mac false a3
  clear a1 a2 a3
  have p1 : ((s.st : Int) == 1) = false := by rw [beq_eq_false_iff_ne]; exact (by omega)
  have p2 : ((s.st : Int) == 2) = false := by rw [beq_eq_false_iff_ne]; exact (by omega)
  have p4 : ((s.st : Int) == 4) = false := by rw [beq_eq_false_iff_ne]; exact (by omega)
  have p5 : ((s.st : Int) == 5) = true := by rw [beq_iff_eq]; exact e1
  clear e1
  have r1 : ((m.ty : Int) == 5) = true := by rw [beq_iff_eq]; exact f1
  have r2 : ((m.ty : Int) == 6) = false := by rw [beq_eq_false_iff_ne]; exact (by omega)
  have r3 : ((m.yours : Int) == s.lease.yours) = false := by rw [beq_eq_false_iff_ne]; exact f2
  clear f1 f2
  simp only [Ls.cs]
  go_enter Try.func21, Try.ntmps21
  go_wp2
  generalize w.alloc (.cells #[.int .i64 m.op, .int .u32 m.id, .int .u32 m.yours, .int .u8 m.cl.a, .int .u8 m.cl.b, .int .u8 m.cl.c, .int .u8 m.cl.d, .int .u8 m.cl.e, .int .u8 m.cl.f, .int .i64 m.ty, .int .u32 m.server, .int .u32 m.asked, .int .i64 m.time, .int .u32 m.mask, .int .u32 m.router, .int .u32 m.resolver] 27) = W at M0 hb g0 ⊢
  have d0 : W.cell? ⟨w.heap.size, 0, none⟩ = some (.int .i64 m.op) := Blk.cell M0.out 0
  have d1 : W.cell? ⟨w.heap.size, 1, none⟩ = some (.int .u32 m.id) := Blk.cell M0.out 1
  have d2 : W.cell? ⟨w.heap.size, 2, none⟩ = some (.int .u32 m.yours) := Blk.cell M0.out 2
  have d3 : W.cell? ⟨w.heap.size, 3, none⟩ = some (.int .u8 m.cl.a) := Blk.cell M0.out 3
  have d4 : W.cell? ⟨w.heap.size, 4, none⟩ = some (.int .u8 m.cl.b) := Blk.cell M0.out 4
  have d5 : W.cell? ⟨w.heap.size, 5, none⟩ = some (.int .u8 m.cl.c) := Blk.cell M0.out 5
  have d6 : W.cell? ⟨w.heap.size, 6, none⟩ = some (.int .u8 m.cl.d) := Blk.cell M0.out 6
  have d7 : W.cell? ⟨w.heap.size, 7, none⟩ = some (.int .u8 m.cl.e) := Blk.cell M0.out 7
  have d8 : W.cell? ⟨w.heap.size, 8, none⟩ = some (.int .u8 m.cl.f) := Blk.cell M0.out 8
  have d9 : W.cell? ⟨w.heap.size, 9, none⟩ = some (.int .i64 m.ty) := Blk.cell M0.out 9
  have d10 : W.cell? ⟨w.heap.size, 10, none⟩ = some (.int .u32 m.server) := Blk.cell M0.out 10
  have d11 : W.cell? ⟨w.heap.size, 11, none⟩ = some (.int .u32 m.asked) := Blk.cell M0.out 11
  have d12 : W.cell? ⟨w.heap.size, 12, none⟩ = some (.int .i64 m.time) := Blk.cell M0.out 12
  have d13 : W.cell? ⟨w.heap.size, 13, none⟩ = some (.int .u32 m.mask) := Blk.cell M0.out 13
  have d14 : W.cell? ⟨w.heap.size, 14, none⟩ = some (.int .u32 m.router) := Blk.cell M0.out 14
  have d15 : W.cell? ⟨w.heap.size, 15, none⟩ = some (.int .u32 m.resolver) := Blk.cell M0.out 15
  have c0 : W.cell? ⟨b, 0, none⟩ = some (.int .u8 mac.a) := Blk.cell hb.out 0
  have c1 : W.cell? ⟨b, 1, none⟩ = some (.int .u8 mac.b) := Blk.cell hb.out 1
  have c2 : W.cell? ⟨b, 2, none⟩ = some (.int .u8 mac.c) := Blk.cell hb.out 2
  have c3 : W.cell? ⟨b, 3, none⟩ = some (.int .u8 mac.d) := Blk.cell hb.out 3
  have c4 : W.cell? ⟨b, 4, none⟩ = some (.int .u8 mac.e) := Blk.cell hb.out 4
  have c5 : W.cell? ⟨b, 5, none⟩ = some (.int .u8 mac.f) := Blk.cell hb.out 5
  have c6 : W.cell? ⟨b, 6, none⟩ = some (.int .i64 s.st) := Blk.cell hb.out 6
  have c7 : W.cell? ⟨b, 7, none⟩ = some (.int .u32 s.id) := Blk.cell hb.out 7
  have c12 : W.cell? ⟨b, 12, none⟩ = some (.int .u32 s.offer.yours) := Blk.cell hb.out 12
  have c20 : W.cell? ⟨b, 20, none⟩ = some (.int .u32 s.offer.server) := Blk.cell hb.out 20
  have c28 : W.cell? ⟨b, 28, none⟩ = some (.int .u32 s.lease.yours) := Blk.cell hb.out 28
  have c36 : W.cell? ⟨b, 36, none⟩ = some (.int .u32 s.lease.server) := Blk.cell hb.out 36
  go_quiet (fail)
  go_wp2
  go_quiet (fail)
  go_wp2
  go_ret
  exact ⟨_, rfl, rfl, (by exact hb.out), (by repeat' (first | exact g0.out | refine only_drewN ?_ _))⟩
set_option maxRecDepth 100000 in
set_option maxHeartbeats 3200000 in
theorem hearF_5r (b : Nat) (mac : M6) (s : St) (m : Ls) (now draw : Int) (w : World) (h : IsRf w b mac s) (h0 : 0 ≤ now) (h1 : now ≤ 1152921504606846976)
    (a1 : m.op = 2) (a2 : m.id = s.id) (a3 : (m.cl.l != mac.l) = false) (e1 : s.st = 5) (f1 : m.ty = 6) :
    Calls Try.prog 21 #[.pointer (some ⟨b, 0, none⟩), .agg m.cs.toArray, .int .i64 now, .int .i64 draw] w fun e w' => DoesR w w' b mac (beginF s now draw) (some (says mac (draw % 4294967296) 1 0 0)) e := by
  have M0 : Hid (Blk (w.alloc (.cells #[.int .i64 m.op, .int .u32 m.id, .int .u32 m.yours, .int .u8 m.cl.a, .int .u8 m.cl.b, .int .u8 m.cl.c, .int .u8 m.cl.d, .int .u8 m.cl.e, .int .u8 m.cl.f, .int .i64 m.ty, .int .u32 m.server, .int .u32 m.asked, .int .i64 m.time, .int .u32 m.mask, .int .u32 m.router, .int .u32 m.resolver] 27)) w.heap.size 27 m.cs.toArray) := Blk.new _ _ _
  have hb := Lib.hid (h.nx (al (rf w) (.cells #[.int .i64 m.op, .int .u32 m.id, .int .u32 m.yours, .int .u8 m.cl.a, .int .u8 m.cl.b, .int .u8 m.cl.c, .int .u8 m.cl.d, .int .u8 m.cl.e, .int .u8 m.cl.f, .int .i64 m.ty, .int .u32 m.server, .int .u32 m.asked, .int .i64 m.time, .int .u32 m.mask, .int .u32 m.router, .int .u32 m.resolver] 27)))
  have g0 : Hid (w.grownBy (w.alloc (.cells #[.int .i64 m.op, .int .u32 m.id, .int .u32 m.yours, .int .u8 m.cl.a, .int .u8 m.cl.b, .int .u8 m.cl.c, .int .u8 m.cl.d, .int .u8 m.cl.e, .int .u8 m.cl.f, .int .i64 m.ty, .int .u32 m.server, .int .u32 m.asked, .int .i64 m.time, .int .u32 m.mask, .int .u32 m.router, .int .u32 m.resolver] 27)) (some b)) := only_alloc (World.grownBy.refl _ _) _
  have hz : Hid (b < w.heap.size) := Blk.lt h
  have q1 : ((m.op : Int) != 2) = false := by rw [bne_eq_false_iff_eq]; exact a1
  have q2 : ((m.id : Int) != s.id) = false := by rw [bne_eq_false_iff_eq]; exact a2
  have q3 := neq_m6 m.cl mac false a3
  clear a1 a2 a3
  have p1 : ((s.st : Int) == 1) = false := by rw [beq_eq_false_iff_ne]; exact (by omega)
  have p2 : ((s.st : Int) == 2) = false := by rw [beq_eq_false_iff_ne]; exact (by omega)
  have p4 : ((s.st : Int) == 4) = false := by rw [beq_eq_false_iff_ne]; exact (by omega)
  have p5 : ((s.st : Int) == 5) = true := by rw [beq_iff_eq]; exact e1
  clear e1
  have r1 : ((m.ty : Int) == 5) = false := by rw [beq_eq_false_iff_ne]; exact (by omega)
  have r2 : ((m.ty : Int) == 6) = true := by rw [beq_iff_eq]; exact f1
  clear f1
  simp only [Ls.cs]
  go_enter Try.func21, Try.ntmps21
  go_wp2
  generalize w.alloc (.cells #[.int .i64 m.op, .int .u32 m.id, .int .u32 m.yours, .int .u8 m.cl.a, .int .u8 m.cl.b, .int .u8 m.cl.c, .int .u8 m.cl.d, .int .u8 m.cl.e, .int .u8 m.cl.f, .int .i64 m.ty, .int .u32 m.server, .int .u32 m.asked, .int .i64 m.time, .int .u32 m.mask, .int .u32 m.router, .int .u32 m.resolver] 27) = W at M0 hb g0 ⊢
  have d0 : W.cell? ⟨w.heap.size, 0, none⟩ = some (.int .i64 m.op) := Blk.cell M0.out 0
  have d1 : W.cell? ⟨w.heap.size, 1, none⟩ = some (.int .u32 m.id) := Blk.cell M0.out 1
  have d2 : W.cell? ⟨w.heap.size, 2, none⟩ = some (.int .u32 m.yours) := Blk.cell M0.out 2
  have d3 : W.cell? ⟨w.heap.size, 3, none⟩ = some (.int .u8 m.cl.a) := Blk.cell M0.out 3
  have d4 : W.cell? ⟨w.heap.size, 4, none⟩ = some (.int .u8 m.cl.b) := Blk.cell M0.out 4
  have d5 : W.cell? ⟨w.heap.size, 5, none⟩ = some (.int .u8 m.cl.c) := Blk.cell M0.out 5
  have d6 : W.cell? ⟨w.heap.size, 6, none⟩ = some (.int .u8 m.cl.d) := Blk.cell M0.out 6
  have d7 : W.cell? ⟨w.heap.size, 7, none⟩ = some (.int .u8 m.cl.e) := Blk.cell M0.out 7
  have d8 : W.cell? ⟨w.heap.size, 8, none⟩ = some (.int .u8 m.cl.f) := Blk.cell M0.out 8
  have d9 : W.cell? ⟨w.heap.size, 9, none⟩ = some (.int .i64 m.ty) := Blk.cell M0.out 9
  have d10 : W.cell? ⟨w.heap.size, 10, none⟩ = some (.int .u32 m.server) := Blk.cell M0.out 10
  have d11 : W.cell? ⟨w.heap.size, 11, none⟩ = some (.int .u32 m.asked) := Blk.cell M0.out 11
  have d12 : W.cell? ⟨w.heap.size, 12, none⟩ = some (.int .i64 m.time) := Blk.cell M0.out 12
  have d13 : W.cell? ⟨w.heap.size, 13, none⟩ = some (.int .u32 m.mask) := Blk.cell M0.out 13
  have d14 : W.cell? ⟨w.heap.size, 14, none⟩ = some (.int .u32 m.router) := Blk.cell M0.out 14
  have d15 : W.cell? ⟨w.heap.size, 15, none⟩ = some (.int .u32 m.resolver) := Blk.cell M0.out 15
  have c0 : W.cell? ⟨b, 0, none⟩ = some (.int .u8 mac.a) := Blk.cell hb.out 0
  have c1 : W.cell? ⟨b, 1, none⟩ = some (.int .u8 mac.b) := Blk.cell hb.out 1
  have c2 : W.cell? ⟨b, 2, none⟩ = some (.int .u8 mac.c) := Blk.cell hb.out 2
  have c3 : W.cell? ⟨b, 3, none⟩ = some (.int .u8 mac.d) := Blk.cell hb.out 3
  have c4 : W.cell? ⟨b, 4, none⟩ = some (.int .u8 mac.e) := Blk.cell hb.out 4
  have c5 : W.cell? ⟨b, 5, none⟩ = some (.int .u8 mac.f) := Blk.cell hb.out 5
  have c6 : W.cell? ⟨b, 6, none⟩ = some (.int .i64 s.st) := Blk.cell hb.out 6
  have c7 : W.cell? ⟨b, 7, none⟩ = some (.int .u32 s.id) := Blk.cell hb.out 7
  have c12 : W.cell? ⟨b, 12, none⟩ = some (.int .u32 s.offer.yours) := Blk.cell hb.out 12
  have c20 : W.cell? ⟨b, 20, none⟩ = some (.int .u32 s.offer.server) := Blk.cell hb.out 20
  have c28 : W.cell? ⟨b, 28, none⟩ = some (.int .u32 s.lease.yours) := Blk.cell hb.out 28
  have c36 : W.cell? ⟨b, 36, none⟩ = some (.int .u32 s.lease.server) := Blk.cell hb.out 36
  go_quiet (fail)
  go_wp2
  go_quiet (fail)
  go_wp2_with fail
  refine (beginF_ b mac s now draw _ (by exact hb.out) h0 h1).mono ?_
  rintro e w1 ⟨v, rfl, ho, hC, hg⟩
  go_wp2
  go_ret
  exact ⟨v, rfl, ho.more (by exact g0.out.size), hC, only_trans (by repeat' (first | exact g0.out | refine only_drewN ?_ _)) hg⟩
set_option maxRecDepth 100000 in
set_option maxHeartbeats 3200000 in
theorem hearF_5b (b : Nat) (mac : M6) (s : St) (m : Ls) (now draw : Int) (w : World) (h : IsRf w b mac s) (h0 : 0 ≤ now) (h1 : now ≤ 1152921504606846976)
    (a1 : m.op = 2) (a2 : m.id = s.id) (a3 : (m.cl.l != mac.l) = false) (e1 : s.st = 5) (f1 : m.ty = 5) (f2 : m.yours = s.lease.yours) :
    Calls Try.prog 21 #[.pointer (some ⟨b, 0, none⟩), .agg m.cs.toArray, .int .i64 now, .int .i64 draw] w fun e w' => DoesR w w' b mac (bindS s m s.lease.server now) none e := by
  have M0 : Hid (Blk (w.alloc (.cells #[.int .i64 m.op, .int .u32 m.id, .int .u32 m.yours, .int .u8 m.cl.a, .int .u8 m.cl.b, .int .u8 m.cl.c, .int .u8 m.cl.d, .int .u8 m.cl.e, .int .u8 m.cl.f, .int .i64 m.ty, .int .u32 m.server, .int .u32 m.asked, .int .i64 m.time, .int .u32 m.mask, .int .u32 m.router, .int .u32 m.resolver] 27)) w.heap.size 27 m.cs.toArray) := Blk.new _ _ _
  have hb := Lib.hid (h.nx (al (rf w) (.cells #[.int .i64 m.op, .int .u32 m.id, .int .u32 m.yours, .int .u8 m.cl.a, .int .u8 m.cl.b, .int .u8 m.cl.c, .int .u8 m.cl.d, .int .u8 m.cl.e, .int .u8 m.cl.f, .int .i64 m.ty, .int .u32 m.server, .int .u32 m.asked, .int .i64 m.time, .int .u32 m.mask, .int .u32 m.router, .int .u32 m.resolver] 27)))
  have g0 : Hid (w.grownBy (w.alloc (.cells #[.int .i64 m.op, .int .u32 m.id, .int .u32 m.yours, .int .u8 m.cl.a, .int .u8 m.cl.b, .int .u8 m.cl.c, .int .u8 m.cl.d, .int .u8 m.cl.e, .int .u8 m.cl.f, .int .i64 m.ty, .int .u32 m.server, .int .u32 m.asked, .int .i64 m.time, .int .u32 m.mask, .int .u32 m.router, .int .u32 m.resolver] 27)) (some b)) := only_alloc (World.grownBy.refl _ _) _
  have hz : Hid (b < w.heap.size) := Blk.lt h
  have q1 : ((m.op : Int) != 2) = false := by rw [bne_eq_false_iff_eq]; exact a1
  have q2 : ((m.id : Int) != s.id) = false := by rw [bne_eq_false_iff_eq]; exact a2
  have q3 := neq_m6 m.cl mac false a3
  clear a1 a2 a3
  have p1 : ((s.st : Int) == 1) = false := by rw [beq_eq_false_iff_ne]; exact (by omega)
  have p2 : ((s.st : Int) == 2) = false := by rw [beq_eq_false_iff_ne]; exact (by omega)
  have p4 : ((s.st : Int) == 4) = false := by rw [beq_eq_false_iff_ne]; exact (by omega)
  have p5 : ((s.st : Int) == 5) = true := by rw [beq_iff_eq]; exact e1
  clear e1
  have r1 : ((m.ty : Int) == 5) = true := by rw [beq_iff_eq]; exact f1
  have r2 : ((m.ty : Int) == 6) = false := by rw [beq_eq_false_iff_ne]; exact (by omega)
  have r3 : ((m.yours : Int) == s.lease.yours) = true := by rw [beq_iff_eq]; exact f2
  clear f1 f2
  simp only [Ls.cs]
  go_enter Try.func21, Try.ntmps21
  go_wp2
  generalize w.alloc (.cells #[.int .i64 m.op, .int .u32 m.id, .int .u32 m.yours, .int .u8 m.cl.a, .int .u8 m.cl.b, .int .u8 m.cl.c, .int .u8 m.cl.d, .int .u8 m.cl.e, .int .u8 m.cl.f, .int .i64 m.ty, .int .u32 m.server, .int .u32 m.asked, .int .i64 m.time, .int .u32 m.mask, .int .u32 m.router, .int .u32 m.resolver] 27) = W at M0 hb g0 ⊢
  have d0 : W.cell? ⟨w.heap.size, 0, none⟩ = some (.int .i64 m.op) := Blk.cell M0.out 0
  have d1 : W.cell? ⟨w.heap.size, 1, none⟩ = some (.int .u32 m.id) := Blk.cell M0.out 1
  have d2 : W.cell? ⟨w.heap.size, 2, none⟩ = some (.int .u32 m.yours) := Blk.cell M0.out 2
  have d3 : W.cell? ⟨w.heap.size, 3, none⟩ = some (.int .u8 m.cl.a) := Blk.cell M0.out 3
  have d4 : W.cell? ⟨w.heap.size, 4, none⟩ = some (.int .u8 m.cl.b) := Blk.cell M0.out 4
  have d5 : W.cell? ⟨w.heap.size, 5, none⟩ = some (.int .u8 m.cl.c) := Blk.cell M0.out 5
  have d6 : W.cell? ⟨w.heap.size, 6, none⟩ = some (.int .u8 m.cl.d) := Blk.cell M0.out 6
  have d7 : W.cell? ⟨w.heap.size, 7, none⟩ = some (.int .u8 m.cl.e) := Blk.cell M0.out 7
  have d8 : W.cell? ⟨w.heap.size, 8, none⟩ = some (.int .u8 m.cl.f) := Blk.cell M0.out 8
  have d9 : W.cell? ⟨w.heap.size, 9, none⟩ = some (.int .i64 m.ty) := Blk.cell M0.out 9
  have d10 : W.cell? ⟨w.heap.size, 10, none⟩ = some (.int .u32 m.server) := Blk.cell M0.out 10
  have d11 : W.cell? ⟨w.heap.size, 11, none⟩ = some (.int .u32 m.asked) := Blk.cell M0.out 11
  have d12 : W.cell? ⟨w.heap.size, 12, none⟩ = some (.int .i64 m.time) := Blk.cell M0.out 12
  have d13 : W.cell? ⟨w.heap.size, 13, none⟩ = some (.int .u32 m.mask) := Blk.cell M0.out 13
  have d14 : W.cell? ⟨w.heap.size, 14, none⟩ = some (.int .u32 m.router) := Blk.cell M0.out 14
  have d15 : W.cell? ⟨w.heap.size, 15, none⟩ = some (.int .u32 m.resolver) := Blk.cell M0.out 15
  have c0 : W.cell? ⟨b, 0, none⟩ = some (.int .u8 mac.a) := Blk.cell hb.out 0
  have c1 : W.cell? ⟨b, 1, none⟩ = some (.int .u8 mac.b) := Blk.cell hb.out 1
  have c2 : W.cell? ⟨b, 2, none⟩ = some (.int .u8 mac.c) := Blk.cell hb.out 2
  have c3 : W.cell? ⟨b, 3, none⟩ = some (.int .u8 mac.d) := Blk.cell hb.out 3
  have c4 : W.cell? ⟨b, 4, none⟩ = some (.int .u8 mac.e) := Blk.cell hb.out 4
  have c5 : W.cell? ⟨b, 5, none⟩ = some (.int .u8 mac.f) := Blk.cell hb.out 5
  have c6 : W.cell? ⟨b, 6, none⟩ = some (.int .i64 s.st) := Blk.cell hb.out 6
  have c7 : W.cell? ⟨b, 7, none⟩ = some (.int .u32 s.id) := Blk.cell hb.out 7
  have c12 : W.cell? ⟨b, 12, none⟩ = some (.int .u32 s.offer.yours) := Blk.cell hb.out 12
  have c20 : W.cell? ⟨b, 20, none⟩ = some (.int .u32 s.offer.server) := Blk.cell hb.out 20
  have c28 : W.cell? ⟨b, 28, none⟩ = some (.int .u32 s.lease.yours) := Blk.cell hb.out 28
  have c36 : W.cell? ⟨b, 36, none⟩ = some (.int .u32 s.lease.server) := Blk.cell hb.out 36
  go_quiet (fail)
  go_wp2
  go_quiet (fail)
  go_wp2
  refine over_draws (F := fun W => Code.wp _ _ _ _ W) (fun W0 hW0 => ?_)
  have e0 : W0.cell? ⟨w.heap.size, 0, none⟩ = some (.int .i64 m.op) := by rw [hW0]; exact d0
  have e1 : W0.cell? ⟨w.heap.size, 1, none⟩ = some (.int .u32 m.id) := by rw [hW0]; exact d1
  have e2 : W0.cell? ⟨w.heap.size, 2, none⟩ = some (.int .u32 m.yours) := by rw [hW0]; exact d2
  have e3 : W0.cell? ⟨w.heap.size, 3, none⟩ = some (.int .u8 m.cl.a) := by rw [hW0]; exact d3
  have e4 : W0.cell? ⟨w.heap.size, 4, none⟩ = some (.int .u8 m.cl.b) := by rw [hW0]; exact d4
  have e5 : W0.cell? ⟨w.heap.size, 5, none⟩ = some (.int .u8 m.cl.c) := by rw [hW0]; exact d5
  have e6 : W0.cell? ⟨w.heap.size, 6, none⟩ = some (.int .u8 m.cl.d) := by rw [hW0]; exact d6
  have e7 : W0.cell? ⟨w.heap.size, 7, none⟩ = some (.int .u8 m.cl.e) := by rw [hW0]; exact d7
  have e8 : W0.cell? ⟨w.heap.size, 8, none⟩ = some (.int .u8 m.cl.f) := by rw [hW0]; exact d8
  have e9 : W0.cell? ⟨w.heap.size, 9, none⟩ = some (.int .i64 m.ty) := by rw [hW0]; exact d9
  have e10 : W0.cell? ⟨w.heap.size, 10, none⟩ = some (.int .u32 m.server) := by rw [hW0]; exact d10
  have e11 : W0.cell? ⟨w.heap.size, 11, none⟩ = some (.int .u32 m.asked) := by rw [hW0]; exact d11
  have e12 : W0.cell? ⟨w.heap.size, 12, none⟩ = some (.int .i64 m.time) := by rw [hW0]; exact d12
  have e13 : W0.cell? ⟨w.heap.size, 13, none⟩ = some (.int .u32 m.mask) := by rw [hW0]; exact d13
  have e14 : W0.cell? ⟨w.heap.size, 14, none⟩ = some (.int .u32 m.router) := by rw [hW0]; exact d14
  have e15 : W0.cell? ⟨w.heap.size, 15, none⟩ = some (.int .u32 m.resolver) := by rw [hW0]; exact d15
  have es : W0.cell? ⟨b, 36, none⟩ = some (.int .u32 s.lease.server) := by rw [hW0]; exact c36
  have hI0 : IsRf W0 b mac s := by rw [hW0]; exact hb.out
  have hM0 : Blk W0 w.heap.size 27 m.cs.toArray := by rw [hW0]; exact M0.out
  have hG0 : w.grownBy W0 (some b) := by rw [hW0]; exact (by repeat' (first | exact g0.out | refine only_drewN ?_ _))
  clear hW0 d0 d1 d2 d3 d4 d5 d6 d7 d8 d9 d10 d11 d12 d13 d14 d15 c0 c1 c2 c3 c4 c5 c6 c7 c12 c20 c28 c36 hb M0 g0
  have hx : ∀ (a : Addr) (n : Nat), ({ W0 with drawn := n } : World).cell? a = W0.cell? a := fun _ _ => rfl
  go_still_tail 8, (by kernel_rfl)
  clear hx
  change wpList _ _ _ _ _ (World.drew _)
  generalize hW : World.drew _ = V
  have hI : IsRf V b mac s := by rw [← hW]; exact hI0
  have hM : Hid (Blk V w.heap.size 27 m.cs.toArray) := by rw [← hW]; exact hM0
  have hG : w.grownBy V (some b) := by rw [← hW]; exact only_drew hG0
  clear hW
  go_wp2_with fail
  refine (bindsF b mac s m s.lease.server now _ hI h0 h1).mono ?_
  rintro e w1 ⟨rfl, hC, hg⟩
  have hM1 : Blk w1 w.heap.size 27 m.cs.toArray := Blk.only hM.out hg (by have := hz.out; omega)
  have k9 : w1.cell? ⟨w.heap.size, 9, none⟩ = some (.int .i64 m.ty) := hM1.cell 9
  go_wp2
  go_ret
  exact ⟨_, rfl, rfl, hC, only_trans hG hg⟩
set_option maxRecDepth 100000 in
set_option maxHeartbeats 3200000 in
theorem hearF_1ok (b : Nat) (mac : M6) (s : St) (m : Ls) (now draw : Int) (w : World) (h : IsRf w b mac s) (h0 : 0 ≤ now) (h1 : now ≤ 1152921504606846976)
    (a1 : m.op = 2) (a2 : m.id = s.id) (a3 : (m.cl.l != mac.l) = false) (e1 : s.st = 1) (f1 : m.ty = 2) (f2 : m.yours ≠ 0) (f3 : m.server ≠ 0) :
    Calls Try.prog 21 #[.pointer (some ⟨b, 0, none⟩), .agg m.cs.toArray, .int .i64 now, .int .i64 draw] w fun e w' => DoesR w w' b mac (offerR s m now) (some (says mac s.id 3 m.yours m.server)) e := by
  have M0 : Hid (Blk (w.alloc (.cells #[.int .i64 m.op, .int .u32 m.id, .int .u32 m.yours, .int .u8 m.cl.a, .int .u8 m.cl.b, .int .u8 m.cl.c, .int .u8 m.cl.d, .int .u8 m.cl.e, .int .u8 m.cl.f, .int .i64 m.ty, .int .u32 m.server, .int .u32 m.asked, .int .i64 m.time, .int .u32 m.mask, .int .u32 m.router, .int .u32 m.resolver] 27)) w.heap.size 27 m.cs.toArray) := Blk.new _ _ _
  have hb := Lib.hid (h.nx (al (rf w) (.cells #[.int .i64 m.op, .int .u32 m.id, .int .u32 m.yours, .int .u8 m.cl.a, .int .u8 m.cl.b, .int .u8 m.cl.c, .int .u8 m.cl.d, .int .u8 m.cl.e, .int .u8 m.cl.f, .int .i64 m.ty, .int .u32 m.server, .int .u32 m.asked, .int .i64 m.time, .int .u32 m.mask, .int .u32 m.router, .int .u32 m.resolver] 27)))
  have g0 : Hid (w.grownBy (w.alloc (.cells #[.int .i64 m.op, .int .u32 m.id, .int .u32 m.yours, .int .u8 m.cl.a, .int .u8 m.cl.b, .int .u8 m.cl.c, .int .u8 m.cl.d, .int .u8 m.cl.e, .int .u8 m.cl.f, .int .i64 m.ty, .int .u32 m.server, .int .u32 m.asked, .int .i64 m.time, .int .u32 m.mask, .int .u32 m.router, .int .u32 m.resolver] 27)) (some b)) := only_alloc (World.grownBy.refl _ _) _
  have hz : Hid (b < w.heap.size) := Blk.lt h
  have q1 : ((m.op : Int) != 2) = false := by rw [bne_eq_false_iff_eq]; exact a1
  have q2 : ((m.id : Int) != s.id) = false := by rw [bne_eq_false_iff_eq]; exact a2
  have q3 := neq_m6 m.cl mac false a3
  clear a1 a2 a3
  have p1 : ((s.st : Int) == 1) = true := by rw [beq_iff_eq]; exact e1
  have p2 : ((s.st : Int) == 2) = false := by rw [beq_eq_false_iff_ne]; exact (by omega)
  have p4 : ((s.st : Int) == 4) = false := by rw [beq_eq_false_iff_ne]; exact (by omega)
  have p5 : ((s.st : Int) == 5) = false := by rw [beq_eq_false_iff_ne]; exact (by omega)
  clear e1
  have r1 : ((m.ty : Int) == 2) = true := by rw [beq_iff_eq]; exact f1
  have r2 : ((m.yours : Int) != 0) = true := by rw [bne_iff_ne]; exact f2
  have r3 : ((m.server : Int) != 0) = true := by rw [bne_iff_ne]; exact f3
  clear f1 f2 f3
  simp only [Ls.cs]
  go_enter Try.func21, Try.ntmps21
  go_wp2
  generalize w.alloc (.cells #[.int .i64 m.op, .int .u32 m.id, .int .u32 m.yours, .int .u8 m.cl.a, .int .u8 m.cl.b, .int .u8 m.cl.c, .int .u8 m.cl.d, .int .u8 m.cl.e, .int .u8 m.cl.f, .int .i64 m.ty, .int .u32 m.server, .int .u32 m.asked, .int .i64 m.time, .int .u32 m.mask, .int .u32 m.router, .int .u32 m.resolver] 27) = W at M0 hb g0 ⊢
  have d0 : W.cell? ⟨w.heap.size, 0, none⟩ = some (.int .i64 m.op) := Blk.cell M0.out 0
  have d1 : W.cell? ⟨w.heap.size, 1, none⟩ = some (.int .u32 m.id) := Blk.cell M0.out 1
  have d2 : W.cell? ⟨w.heap.size, 2, none⟩ = some (.int .u32 m.yours) := Blk.cell M0.out 2
  have d3 : W.cell? ⟨w.heap.size, 3, none⟩ = some (.int .u8 m.cl.a) := Blk.cell M0.out 3
  have d4 : W.cell? ⟨w.heap.size, 4, none⟩ = some (.int .u8 m.cl.b) := Blk.cell M0.out 4
  have d5 : W.cell? ⟨w.heap.size, 5, none⟩ = some (.int .u8 m.cl.c) := Blk.cell M0.out 5
  have d6 : W.cell? ⟨w.heap.size, 6, none⟩ = some (.int .u8 m.cl.d) := Blk.cell M0.out 6
  have d7 : W.cell? ⟨w.heap.size, 7, none⟩ = some (.int .u8 m.cl.e) := Blk.cell M0.out 7
  have d8 : W.cell? ⟨w.heap.size, 8, none⟩ = some (.int .u8 m.cl.f) := Blk.cell M0.out 8
  have d9 : W.cell? ⟨w.heap.size, 9, none⟩ = some (.int .i64 m.ty) := Blk.cell M0.out 9
  have d10 : W.cell? ⟨w.heap.size, 10, none⟩ = some (.int .u32 m.server) := Blk.cell M0.out 10
  have d11 : W.cell? ⟨w.heap.size, 11, none⟩ = some (.int .u32 m.asked) := Blk.cell M0.out 11
  have d12 : W.cell? ⟨w.heap.size, 12, none⟩ = some (.int .i64 m.time) := Blk.cell M0.out 12
  have d13 : W.cell? ⟨w.heap.size, 13, none⟩ = some (.int .u32 m.mask) := Blk.cell M0.out 13
  have d14 : W.cell? ⟨w.heap.size, 14, none⟩ = some (.int .u32 m.router) := Blk.cell M0.out 14
  have d15 : W.cell? ⟨w.heap.size, 15, none⟩ = some (.int .u32 m.resolver) := Blk.cell M0.out 15
  have c0 : W.cell? ⟨b, 0, none⟩ = some (.int .u8 mac.a) := Blk.cell hb.out 0
  have c1 : W.cell? ⟨b, 1, none⟩ = some (.int .u8 mac.b) := Blk.cell hb.out 1
  have c2 : W.cell? ⟨b, 2, none⟩ = some (.int .u8 mac.c) := Blk.cell hb.out 2
  have c3 : W.cell? ⟨b, 3, none⟩ = some (.int .u8 mac.d) := Blk.cell hb.out 3
  have c4 : W.cell? ⟨b, 4, none⟩ = some (.int .u8 mac.e) := Blk.cell hb.out 4
  have c5 : W.cell? ⟨b, 5, none⟩ = some (.int .u8 mac.f) := Blk.cell hb.out 5
  have c6 : W.cell? ⟨b, 6, none⟩ = some (.int .i64 s.st) := Blk.cell hb.out 6
  have c7 : W.cell? ⟨b, 7, none⟩ = some (.int .u32 s.id) := Blk.cell hb.out 7
  have c12 : W.cell? ⟨b, 12, none⟩ = some (.int .u32 s.offer.yours) := Blk.cell hb.out 12
  have c20 : W.cell? ⟨b, 20, none⟩ = some (.int .u32 s.offer.server) := Blk.cell hb.out 20
  have c28 : W.cell? ⟨b, 28, none⟩ = some (.int .u32 s.lease.yours) := Blk.cell hb.out 28
  have c36 : W.cell? ⟨b, 36, none⟩ = some (.int .u32 s.lease.server) := Blk.cell hb.out 36
  go_quiet (fail)
  refine over_draws (F := fun W => Exit.then _ _ _ _ W) (fun W0 hW0 => ?_)
  have hI0 : IsRf W0 b mac s := by rw [hW0]; exact hb.out
  have hM0 : Hid (Blk W0 w.heap.size 27 m.cs.toArray) := by rw [hW0]; exact M0.out
  have hG0 : Hid (w.grownBy W0 (some b)) := by rw [hW0]; exact (by repeat' (first | exact g0.out | refine only_drewN ?_ _))
  clear hW0 d0 d1 d2 d3 d4 d5 d6 d7 d8 d9 d10 d11 d12 d13 d14 d15 c0 c1 c2 c3 c4 c5 c6 c7 c12 c20 c28 c36 hb M0 g0
  have hn1 : Hid (b ≠ w.heap.size) := by have := hz.out; exact (fun e => by omega)
  have e6 : W0.cell? ⟨b, 6, none⟩ = some (.int .i64 s.st) := hI0.cell 6
  have e9 : W0.cell? ⟨w.heap.size, 9, none⟩ = some (.int .i64 m.ty) := hM0.out.cell 9
  have e2 : W0.cell? ⟨w.heap.size, 2, none⟩ = some (.int .u32 m.yours) := hM0.out.cell 2
  have e10 : W0.cell? ⟨w.heap.size, 10, none⟩ = some (.int .u32 m.server) := hM0.out.cell 10
  have f6 := Blk.frozen hI0 6
  have H1 : Hid (IsRf (W0.setCell ⟨b, 6, none⟩ (.int .i64 2)) b mac { s with st := 2 }) := hI0.set 6 _ _ rfl
  have M1 : Hid (Blk (W0.setCell ⟨b, 6, none⟩ (.int .i64 2)) w.heap.size 27 m.cs.toArray) := hM0.out.far (fun e => hn1.out e.symm) _
  have G1 : Hid (w.grownBy (W0.setCell ⟨b, 6, none⟩ (.int .i64 2)) (some b)) := only_setCell (p := ⟨b, 6, none⟩) hG0.out (.inl rfl) _
  clear hI0
  go_wp2_with (first
    | (with_reducible refine wpList_load_blk rfl 27 5 rfl w.heap.size 0 16 (by kernel_rfl) 27 _ m.cs M1.out (by kernel_rfl) _ Try.underlying27 (by kernel_rfl) (by kernel_rfl) ?_)
    | ((with_reducible refine wpList_store_blk rfl 27 55 53 rfl b 10 m.cs (by kernel_rfl) (by kernel_rfl) 46 _ H1.out (by rw [rfCs_len, Ls.len]; decide) (by kernel_rfl) (Ls.one _) ?_); intro w3 hB3 g3; have H3 := Lib.hid (IsRf.lay { s with st := 2, offer := m } hB3 (by kernel_rfl)); have M3 := Lib.hid (Blk.only M1.out g3 (fun e => hn1.out e.symm)); clear hB3; have c9 : w3.cell? ⟨b, 9, none⟩ = some (.int .i64 s.tried) := H3.out.cell 9; have f9 := Blk.frozen H3.out 9; have c8 : w3.cell? ⟨b, 8, none⟩ = some (.int .i64 s.next) := H3.out.cell 8; have f8 := Blk.frozen H3.out 8; have k2 : w3.cell? ⟨w.heap.size, 2, none⟩ = some (.int .u32 m.yours) := M3.out.cell 2; have k10 : w3.cell? ⟨w.heap.size, 10, none⟩ = some (.int .u32 m.server) := M3.out.cell 10; have n2 : w.heap.size ≠ b := fun e => hn1.out e.symm))
  refine (later now 40 _ h0 (by omega) (by omega) (by omega)).mono ?_
  rintro e w5 ⟨rfl, rfl⟩
  have H5 : Hid (IsRf ((w3.setCell ⟨b, 9, none⟩ (.int .i64 1)).setCell ⟨b, 8, none⟩ (.int .i64 (now + 40))) b mac (offerR s m now)) := (H3.out.set 9 _ { s with st := 2, offer := m, tried := 1 } rfl).set 8 _ _ rfl
  have G5 : Hid (w.grownBy ((w3.setCell ⟨b, 9, none⟩ (.int .i64 1)).setCell ⟨b, 8, none⟩ (.int .i64 (now + 40))) (some b)) := only_setCell (p := ⟨b, 8, none⟩) (only_setCell (p := ⟨b, 9, none⟩) (only_trans G1.out g3) (.inl rfl) _) (.inl rfl) _
  go_wp2_with fail
  refine (sendsF b mac _ _ _ _ _ H5.out).mono ?_
  rintro e w2 ⟨v, rfl, hm, hb⟩
  go_wp2
  go_ret
  exact ⟨v, rfl, hm.more G5.out.size, H5.out.nx hb, only_nx G5.out hb⟩
end Go.Proofs.Ytgdlghieifadhaa
