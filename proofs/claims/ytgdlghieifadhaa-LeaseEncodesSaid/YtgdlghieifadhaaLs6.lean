/-
  A lease's client: it is told a message.
-/
import Derived.Test.YtgdlghieifadhaaLs4
import Derived.Test.YtgdlghieifadhaaLs5
set_option linter.unusedVariables false
namespace Go.Proofs.Ytgdlghieifadhaa
open Go.RowKit

theorem neq_m6 (a c : M6) (t : Bool) (h : Hid ((a.l != c.l) = t)) (w : World) : (binOp .neq 25 (.agg #[.int .u8 a.a, .int .u8 a.b, .int .u8 a.c, .int .u8 a.d, .int .u8 a.e, .int .u8 a.f]) (.agg #[.int .u8 c.a, .int .u8 c.b, .int .u8 c.c, .int .u8 c.d, .int .u8 c.e, .int .u8 c.f])).run Try.prog w = .ok (.bool t) w := by
  have := run_neq_ints w Try.underlying25 (by kernel_rfl) (by kernel_rfl) Try.underlying5 Try.isAgg5 a.l c.l rfl rfl
  rw [h.out] at this
  exact this
def offerS (s : St) (m : Ls) (now : Int) : St := { s with st := 2, id := s.id, next := now + 40, tried := 1, offer := m }
def Mine (mac : M6) (s : St) (m : Ls) : Prop := m.op = 2 ∧ m.id = s.id ∧ (m.cl.l != mac.l) = false
set_option maxRecDepth 100000 in
set_option maxHeartbeats 3200000 in
theorem hear_op (b : Nat) (mac : M6) (s : St) (m : Ls) (now draw : Int) (w : World) (h : IsC w b mac s) (hs : s.ok) (h0 : 0 ≤ now) (h1 : now ≤ 1152921504606846976)
    (a1 : m.op ≠ 2) :
    Calls Try.prog 12 #[.pointer (some ⟨b, 0, none⟩), .agg m.cs.toArray, .int .i64 now, .int .i64 draw] w fun e w' => Does w w' b mac s none e := by
  have M0 : Hid (Blk (w.alloc (.cells #[.int .i64 m.op, .int .u32 m.id, .int .u32 m.yours, .int .u8 m.cl.a, .int .u8 m.cl.b, .int .u8 m.cl.c, .int .u8 m.cl.d, .int .u8 m.cl.e, .int .u8 m.cl.f, .int .i64 m.ty, .int .u32 m.server, .int .u32 m.asked, .int .i64 m.time, .int .u32 m.mask, .int .u32 m.router, .int .u32 m.resolver] 27)) w.heap.size 27 m.cs.toArray) := Blk.new _ _ _
  have hb := Lib.hid (h.nx (al (rf w) (.cells #[.int .i64 m.op, .int .u32 m.id, .int .u32 m.yours, .int .u8 m.cl.a, .int .u8 m.cl.b, .int .u8 m.cl.c, .int .u8 m.cl.d, .int .u8 m.cl.e, .int .u8 m.cl.f, .int .i64 m.ty, .int .u32 m.server, .int .u32 m.asked, .int .i64 m.time, .int .u32 m.mask, .int .u32 m.router, .int .u32 m.resolver] 27)))
  have g0 : Hid (w.grownBy (w.alloc (.cells #[.int .i64 m.op, .int .u32 m.id, .int .u32 m.yours, .int .u8 m.cl.a, .int .u8 m.cl.b, .int .u8 m.cl.c, .int .u8 m.cl.d, .int .u8 m.cl.e, .int .u8 m.cl.f, .int .i64 m.ty, .int .u32 m.server, .int .u32 m.asked, .int .i64 m.time, .int .u32 m.mask, .int .u32 m.router, .int .u32 m.resolver] 27)) (some b)) := only_alloc (World.grownBy.refl _ _) _
  have hz : Hid (b < w.heap.size) := Blk.lt h
  have q1 : ((m.op : Int) != 2) = true := by rw [bne_iff_ne]; exact a1
  clear a1
  simp only [Ls.cs]
  go_enter Try.func12, Try.ntmps12
  go_wp2
  generalize w.alloc (.cells #[.int .i64 m.op, .int .u32 m.id, .int .u32 m.yours, .int .u8 m.cl.a, .int .u8 m.cl.b, .int .u8 m.cl.c, .int .u8 m.cl.d, .int .u8 m.cl.e, .int .u8 m.cl.f, .int .i64 m.ty, .int .u32 m.server, .int .u32 m.asked, .int .i64 m.time, .int .u32 m.mask, .int .u32 m.router, .int .u32 m.resolver] 27) = W at M0 hb g0 ⊢
  have d0 : W.cell? ⟨w.heap.size, 0, none⟩ = some (.int .i64 m.op) := Blk.cell M0.out 0
  have d1 : W.cell? ⟨w.heap.size, 1, none⟩ = some (.int .u32 m.id) := Blk.cell M0.out 1
  have d2 : W.cell? ⟨w.heap.size, 2, none⟩ = some (.int .u32 m.yours) := Blk.cell M0.out 2
  have d3 : W.cell? ⟨w.heap.size, 3, none⟩ = some (.int .u8 m.cl.a) := Blk.cell M0.out 3
  have d4 : W.cell? ⟨w.heap.size, 4, none⟩ = some (.int .u8 m.cl.b) := Blk.cell M0.out 4
  have d5 : W.cell? ⟨w.heap.size, 5, none⟩ = some (.int .u8 m.cl.c) := Blk.cell M0.out 5
  have d6 : W.cell? ⟨w.heap.size, 6, none⟩ = some (.int .u8 m.cl.d) := Blk.cell M0.out 6
  have d7 : W.cell? ⟨w.heap.size, 7, none⟩ = some (.int .u8 m.cl.e) := Blk.cell M0.out 7
  have d8 : W.cell? ⟨w.heap.size, 8, none⟩ = some (.int .u8 m.cl.f) := Blk.cell M0.out 8
  have d9 : W.cell? ⟨w.heap.size, 9, none⟩ = some (.int .i64 m.ty) := Blk.cell M0.out 9
  have d10 : W.cell? ⟨w.heap.size, 10, none⟩ = some (.int .u32 m.server) := Blk.cell M0.out 10
  have d11 : W.cell? ⟨w.heap.size, 11, none⟩ = some (.int .u32 m.asked) := Blk.cell M0.out 11
  have d12 : W.cell? ⟨w.heap.size, 12, none⟩ = some (.int .i64 m.time) := Blk.cell M0.out 12
  have d13 : W.cell? ⟨w.heap.size, 13, none⟩ = some (.int .u32 m.mask) := Blk.cell M0.out 13
  have d14 : W.cell? ⟨w.heap.size, 14, none⟩ = some (.int .u32 m.router) := Blk.cell M0.out 14
  have d15 : W.cell? ⟨w.heap.size, 15, none⟩ = some (.int .u32 m.resolver) := Blk.cell M0.out 15
  have c0 : W.cell? ⟨b, 0, none⟩ = some (.int .u8 mac.a) := Blk.cell hb.out 0
  have c1 : W.cell? ⟨b, 1, none⟩ = some (.int .u8 mac.b) := Blk.cell hb.out 1
  have c2 : W.cell? ⟨b, 2, none⟩ = some (.int .u8 mac.c) := Blk.cell hb.out 2
  have c3 : W.cell? ⟨b, 3, none⟩ = some (.int .u8 mac.d) := Blk.cell hb.out 3
  have c4 : W.cell? ⟨b, 4, none⟩ = some (.int .u8 mac.e) := Blk.cell hb.out 4
  have c5 : W.cell? ⟨b, 5, none⟩ = some (.int .u8 mac.f) := Blk.cell hb.out 5
  have c6 : W.cell? ⟨b, 6, none⟩ = some (.int .i64 s.st) := Blk.cell hb.out 6
  have c7 : W.cell? ⟨b, 7, none⟩ = some (.int .u32 s.id) := Blk.cell hb.out 7
  have c12 : W.cell? ⟨b, 12, none⟩ = some (.int .u32 s.offer.yours) := Blk.cell hb.out 12
  have c20 : W.cell? ⟨b, 20, none⟩ = some (.int .u32 s.offer.server) := Blk.cell hb.out 20
  have c28 : W.cell? ⟨b, 28, none⟩ = some (.int .u32 s.lease.yours) := Blk.cell hb.out 28
  have c36 : W.cell? ⟨b, 36, none⟩ = some (.int .u32 s.lease.server) := Blk.cell hb.out 36
  go_quiet (fail)
  go_wp2
  go_ret
  exact ⟨_, rfl, rfl, (by exact hb.out), (by repeat' (first | exact g0.out | refine only_drewN ?_ _))⟩
set_option maxRecDepth 100000 in
set_option maxHeartbeats 3200000 in
theorem hear_id (b : Nat) (mac : M6) (s : St) (m : Ls) (now draw : Int) (w : World) (h : IsC w b mac s) (hs : s.ok) (h0 : 0 ≤ now) (h1 : now ≤ 1152921504606846976)
    (a1 : m.op = 2) (a2 : m.id ≠ s.id) :
    Calls Try.prog 12 #[.pointer (some ⟨b, 0, none⟩), .agg m.cs.toArray, .int .i64 now, .int .i64 draw] w fun e w' => Does w w' b mac s none e := by
  have M0 : Hid (Blk (w.alloc (.cells #[.int .i64 m.op, .int .u32 m.id, .int .u32 m.yours, .int .u8 m.cl.a, .int .u8 m.cl.b, .int .u8 m.cl.c, .int .u8 m.cl.d, .int .u8 m.cl.e, .int .u8 m.cl.f, .int .i64 m.ty, .int .u32 m.server, .int .u32 m.asked, .int .i64 m.time, .int .u32 m.mask, .int .u32 m.router, .int .u32 m.resolver] 27)) w.heap.size 27 m.cs.toArray) := Blk.new _ _ _
  have hb := Lib.hid (h.nx (al (rf w) (.cells #[.int .i64 m.op, .int .u32 m.id, .int .u32 m.yours, .int .u8 m.cl.a, .int .u8 m.cl.b, .int .u8 m.cl.c, .int .u8 m.cl.d, .int .u8 m.cl.e, .int .u8 m.cl.f, .int .i64 m.ty, .int .u32 m.server, .int .u32 m.asked, .int .i64 m.time, .int .u32 m.mask, .int .u32 m.router, .int .u32 m.resolver] 27)))
  have g0 : Hid (w.grownBy (w.alloc (.cells #[.int .i64 m.op, .int .u32 m.id, .int .u32 m.yours, .int .u8 m.cl.a, .int .u8 m.cl.b, .int .u8 m.cl.c, .int .u8 m.cl.d, .int .u8 m.cl.e, .int .u8 m.cl.f, .int .i64 m.ty, .int .u32 m.server, .int .u32 m.asked, .int .i64 m.time, .int .u32 m.mask, .int .u32 m.router, .int .u32 m.resolver] 27)) (some b)) := only_alloc (World.grownBy.refl _ _) _
  have hz : Hid (b < w.heap.size) := Blk.lt h
  have q1 : ((m.op : Int) != 2) = false := by rw [bne_eq_false_iff_eq]; exact a1
  have q2 : ((m.id : Int) != s.id) = true := by rw [bne_iff_ne]; exact a2
  clear a1 a2
  simp only [Ls.cs]
  go_enter Try.func12, Try.ntmps12
  go_wp2
  generalize w.alloc (.cells #[.int .i64 m.op, .int .u32 m.id, .int .u32 m.yours, .int .u8 m.cl.a, .int .u8 m.cl.b, .int .u8 m.cl.c, .int .u8 m.cl.d, .int .u8 m.cl.e, .int .u8 m.cl.f, .int .i64 m.ty, .int .u32 m.server, .int .u32 m.asked, .int .i64 m.time, .int .u32 m.mask, .int .u32 m.router, .int .u32 m.resolver] 27) = W at M0 hb g0 ⊢
  have d0 : W.cell? ⟨w.heap.size, 0, none⟩ = some (.int .i64 m.op) := Blk.cell M0.out 0
  have d1 : W.cell? ⟨w.heap.size, 1, none⟩ = some (.int .u32 m.id) := Blk.cell M0.out 1
  have d2 : W.cell? ⟨w.heap.size, 2, none⟩ = some (.int .u32 m.yours) := Blk.cell M0.out 2
  have d3 : W.cell? ⟨w.heap.size, 3, none⟩ = some (.int .u8 m.cl.a) := Blk.cell M0.out 3
  have d4 : W.cell? ⟨w.heap.size, 4, none⟩ = some (.int .u8 m.cl.b) := Blk.cell M0.out 4
  have d5 : W.cell? ⟨w.heap.size, 5, none⟩ = some (.int .u8 m.cl.c) := Blk.cell M0.out 5
  have d6 : W.cell? ⟨w.heap.size, 6, none⟩ = some (.int .u8 m.cl.d) := Blk.cell M0.out 6
  have d7 : W.cell? ⟨w.heap.size, 7, none⟩ = some (.int .u8 m.cl.e) := Blk.cell M0.out 7
  have d8 : W.cell? ⟨w.heap.size, 8, none⟩ = some (.int .u8 m.cl.f) := Blk.cell M0.out 8
  have d9 : W.cell? ⟨w.heap.size, 9, none⟩ = some (.int .i64 m.ty) := Blk.cell M0.out 9
  have d10 : W.cell? ⟨w.heap.size, 10, none⟩ = some (.int .u32 m.server) := Blk.cell M0.out 10
  have d11 : W.cell? ⟨w.heap.size, 11, none⟩ = some (.int .u32 m.asked) := Blk.cell M0.out 11
  have d12 : W.cell? ⟨w.heap.size, 12, none⟩ = some (.int .i64 m.time) := Blk.cell M0.out 12
  have d13 : W.cell? ⟨w.heap.size, 13, none⟩ = some (.int .u32 m.mask) := Blk.cell M0.out 13
  have d14 : W.cell? ⟨w.heap.size, 14, none⟩ = some (.int .u32 m.router) := Blk.cell M0.out 14
  have d15 : W.cell? ⟨w.heap.size, 15, none⟩ = some (.int .u32 m.resolver) := Blk.cell M0.out 15
  have c0 : W.cell? ⟨b, 0, none⟩ = some (.int .u8 mac.a) := Blk.cell hb.out 0
  have c1 : W.cell? ⟨b, 1, none⟩ = some (.int .u8 mac.b) := Blk.cell hb.out 1
  have c2 : W.cell? ⟨b, 2, none⟩ = some (.int .u8 mac.c) := Blk.cell hb.out 2
  have c3 : W.cell? ⟨b, 3, none⟩ = some (.int .u8 mac.d) := Blk.cell hb.out 3
  have c4 : W.cell? ⟨b, 4, none⟩ = some (.int .u8 mac.e) := Blk.cell hb.out 4
  have c5 : W.cell? ⟨b, 5, none⟩ = some (.int .u8 mac.f) := Blk.cell hb.out 5
  have c6 : W.cell? ⟨b, 6, none⟩ = some (.int .i64 s.st) := Blk.cell hb.out 6
  have c7 : W.cell? ⟨b, 7, none⟩ = some (.int .u32 s.id) := Blk.cell hb.out 7
  have c12 : W.cell? ⟨b, 12, none⟩ = some (.int .u32 s.offer.yours) := Blk.cell hb.out 12
  have c20 : W.cell? ⟨b, 20, none⟩ = some (.int .u32 s.offer.server) := Blk.cell hb.out 20
  have c28 : W.cell? ⟨b, 28, none⟩ = some (.int .u32 s.lease.yours) := Blk.cell hb.out 28
  have c36 : W.cell? ⟨b, 36, none⟩ = some (.int .u32 s.lease.server) := Blk.cell hb.out 36
  go_quiet (fail)
  go_wp2
  go_ret
  exact ⟨_, rfl, rfl, (by exact hb.out), (by repeat' (first | exact g0.out | refine only_drewN ?_ _))⟩
set_option maxRecDepth 100000 in
set_option maxHeartbeats 3200000 in
theorem hear_mac (b : Nat) (mac : M6) (s : St) (m : Ls) (now draw : Int) (w : World) (h : IsC w b mac s) (hs : s.ok) (h0 : 0 ≤ now) (h1 : now ≤ 1152921504606846976)
    (a1 : m.op = 2) (a2 : m.id = s.id) (a3 : (m.cl.l != mac.l) = true) :
    Calls Try.prog 12 #[.pointer (some ⟨b, 0, none⟩), .agg m.cs.toArray, .int .i64 now, .int .i64 draw] w fun e w' => Does w w' b mac s none e := by
  have M0 : Hid (Blk (w.alloc (.cells #[.int .i64 m.op, .int .u32 m.id, .int .u32 m.yours, .int .u8 m.cl.a, .int .u8 m.cl.b, .int .u8 m.cl.c, .int .u8 m.cl.d, .int .u8 m.cl.e, .int .u8 m.cl.f, .int .i64 m.ty, .int .u32 m.server, .int .u32 m.asked, .int .i64 m.time, .int .u32 m.mask, .int .u32 m.router, .int .u32 m.resolver] 27)) w.heap.size 27 m.cs.toArray) := Blk.new _ _ _
  have hb := Lib.hid (h.nx (al (rf w) (.cells #[.int .i64 m.op, .int .u32 m.id, .int .u32 m.yours, .int .u8 m.cl.a, .int .u8 m.cl.b, .int .u8 m.cl.c, .int .u8 m.cl.d, .int .u8 m.cl.e, .int .u8 m.cl.f, .int .i64 m.ty, .int .u32 m.server, .int .u32 m.asked, .int .i64 m.time, .int .u32 m.mask, .int .u32 m.router, .int .u32 m.resolver] 27)))
  have g0 : Hid (w.grownBy (w.alloc (.cells #[.int .i64 m.op, .int .u32 m.id, .int .u32 m.yours, .int .u8 m.cl.a, .int .u8 m.cl.b, .int .u8 m.cl.c, .int .u8 m.cl.d, .int .u8 m.cl.e, .int .u8 m.cl.f, .int .i64 m.ty, .int .u32 m.server, .int .u32 m.asked, .int .i64 m.time, .int .u32 m.mask, .int .u32 m.router, .int .u32 m.resolver] 27)) (some b)) := only_alloc (World.grownBy.refl _ _) _
  have hz : Hid (b < w.heap.size) := Blk.lt h
  have q1 : ((m.op : Int) != 2) = false := by rw [bne_eq_false_iff_eq]; exact a1
  have q2 : ((m.id : Int) != s.id) = false := by rw [bne_eq_false_iff_eq]; exact a2
  have q3 := neq_m6 m.cl mac true a3
  clear a1 a2 a3
  simp only [Ls.cs]
  go_enter Try.func12, Try.ntmps12
  go_wp2
  generalize w.alloc (.cells #[.int .i64 m.op, .int .u32 m.id, .int .u32 m.yours, .int .u8 m.cl.a, .int .u8 m.cl.b, .int .u8 m.cl.c, .int .u8 m.cl.d, .int .u8 m.cl.e, .int .u8 m.cl.f, .int .i64 m.ty, .int .u32 m.server, .int .u32 m.asked, .int .i64 m.time, .int .u32 m.mask, .int .u32 m.router, .int .u32 m.resolver] 27) = W at M0 hb g0 ⊢
  have d0 : W.cell? ⟨w.heap.size, 0, none⟩ = some (.int .i64 m.op) := Blk.cell M0.out 0
  have d1 : W.cell? ⟨w.heap.size, 1, none⟩ = some (.int .u32 m.id) := Blk.cell M0.out 1
  have d2 : W.cell? ⟨w.heap.size, 2, none⟩ = some (.int .u32 m.yours) := Blk.cell M0.out 2
  have d3 : W.cell? ⟨w.heap.size, 3, none⟩ = some (.int .u8 m.cl.a) := Blk.cell M0.out 3
  have d4 : W.cell? ⟨w.heap.size, 4, none⟩ = some (.int .u8 m.cl.b) := Blk.cell M0.out 4
  have d5 : W.cell? ⟨w.heap.size, 5, none⟩ = some (.int .u8 m.cl.c) := Blk.cell M0.out 5
  have d6 : W.cell? ⟨w.heap.size, 6, none⟩ = some (.int .u8 m.cl.d) := Blk.cell M0.out 6
  have d7 : W.cell? ⟨w.heap.size, 7, none⟩ = some (.int .u8 m.cl.e) := Blk.cell M0.out 7
  have d8 : W.cell? ⟨w.heap.size, 8, none⟩ = some (.int .u8 m.cl.f) := Blk.cell M0.out 8
  have d9 : W.cell? ⟨w.heap.size, 9, none⟩ = some (.int .i64 m.ty) := Blk.cell M0.out 9
  have d10 : W.cell? ⟨w.heap.size, 10, none⟩ = some (.int .u32 m.server) := Blk.cell M0.out 10
  have d11 : W.cell? ⟨w.heap.size, 11, none⟩ = some (.int .u32 m.asked) := Blk.cell M0.out 11
  have d12 : W.cell? ⟨w.heap.size, 12, none⟩ = some (.int .i64 m.time) := Blk.cell M0.out 12
  have d13 : W.cell? ⟨w.heap.size, 13, none⟩ = some (.int .u32 m.mask) := Blk.cell M0.out 13
  have d14 : W.cell? ⟨w.heap.size, 14, none⟩ = some (.int .u32 m.router) := Blk.cell M0.out 14
  have d15 : W.cell? ⟨w.heap.size, 15, none⟩ = some (.int .u32 m.resolver) := Blk.cell M0.out 15
  have c0 : W.cell? ⟨b, 0, none⟩ = some (.int .u8 mac.a) := Blk.cell hb.out 0
  have c1 : W.cell? ⟨b, 1, none⟩ = some (.int .u8 mac.b) := Blk.cell hb.out 1
  have c2 : W.cell? ⟨b, 2, none⟩ = some (.int .u8 mac.c) := Blk.cell hb.out 2
  have c3 : W.cell? ⟨b, 3, none⟩ = some (.int .u8 mac.d) := Blk.cell hb.out 3
  have c4 : W.cell? ⟨b, 4, none⟩ = some (.int .u8 mac.e) := Blk.cell hb.out 4
  have c5 : W.cell? ⟨b, 5, none⟩ = some (.int .u8 mac.f) := Blk.cell hb.out 5
  have c6 : W.cell? ⟨b, 6, none⟩ = some (.int .i64 s.st) := Blk.cell hb.out 6
  have c7 : W.cell? ⟨b, 7, none⟩ = some (.int .u32 s.id) := Blk.cell hb.out 7
  have c12 : W.cell? ⟨b, 12, none⟩ = some (.int .u32 s.offer.yours) := Blk.cell hb.out 12
  have c20 : W.cell? ⟨b, 20, none⟩ = some (.int .u32 s.offer.server) := Blk.cell hb.out 20
  have c28 : W.cell? ⟨b, 28, none⟩ = some (.int .u32 s.lease.yours) := Blk.cell hb.out 28
  have c36 : W.cell? ⟨b, 36, none⟩ = some (.int .u32 s.lease.server) := Blk.cell hb.out 36
  go_quiet (fail)
  go_wp2
  go_ret
  exact ⟨_, rfl, rfl, (by exact hb.out), (by repeat' (first | exact g0.out | refine only_drewN ?_ _))⟩
set_option maxRecDepth 100000 in
set_option maxHeartbeats 3200000 in
theorem hear_still (b : Nat) (mac : M6) (s : St) (m : Ls) (now draw : Int) (w : World) (h : IsC w b mac s) (hs : s.ok) (h0 : 0 ≤ now) (h1 : now ≤ 1152921504606846976)
    (a1 : m.op = 2) (a2 : m.id = s.id) (a3 : (m.cl.l != mac.l) = false) (e1 : s.st ≠ 1) (e2 : s.st ≠ 2) (e3 : s.st ≤ 3) :
    Calls Try.prog 12 #[.pointer (some ⟨b, 0, none⟩), .agg m.cs.toArray, .int .i64 now, .int .i64 draw] w fun e w' => Does w w' b mac s none e := by
  have M0 : Hid (Blk (w.alloc (.cells #[.int .i64 m.op, .int .u32 m.id, .int .u32 m.yours, .int .u8 m.cl.a, .int .u8 m.cl.b, .int .u8 m.cl.c, .int .u8 m.cl.d, .int .u8 m.cl.e, .int .u8 m.cl.f, .int .i64 m.ty, .int .u32 m.server, .int .u32 m.asked, .int .i64 m.time, .int .u32 m.mask, .int .u32 m.router, .int .u32 m.resolver] 27)) w.heap.size 27 m.cs.toArray) := Blk.new _ _ _
  have hb := Lib.hid (h.nx (al (rf w) (.cells #[.int .i64 m.op, .int .u32 m.id, .int .u32 m.yours, .int .u8 m.cl.a, .int .u8 m.cl.b, .int .u8 m.cl.c, .int .u8 m.cl.d, .int .u8 m.cl.e, .int .u8 m.cl.f, .int .i64 m.ty, .int .u32 m.server, .int .u32 m.asked, .int .i64 m.time, .int .u32 m.mask, .int .u32 m.router, .int .u32 m.resolver] 27)))
  have g0 : Hid (w.grownBy (w.alloc (.cells #[.int .i64 m.op, .int .u32 m.id, .int .u32 m.yours, .int .u8 m.cl.a, .int .u8 m.cl.b, .int .u8 m.cl.c, .int .u8 m.cl.d, .int .u8 m.cl.e, .int .u8 m.cl.f, .int .i64 m.ty, .int .u32 m.server, .int .u32 m.asked, .int .i64 m.time, .int .u32 m.mask, .int .u32 m.router, .int .u32 m.resolver] 27)) (some b)) := only_alloc (World.grownBy.refl _ _) _
  have hz : Hid (b < w.heap.size) := Blk.lt h
  have q1 : ((m.op : Int) != 2) = false := by rw [bne_eq_false_iff_eq]; exact a1
  have q2 : ((m.id : Int) != s.id) = false := by rw [bne_eq_false_iff_eq]; exact a2
  have q3 := neq_m6 m.cl mac false a3
  clear a1 a2 a3
  have p1 : ((s.st : Int) == 1) = false := by rw [beq_eq_false_iff_ne]; exact e1
  have p2 : ((s.st : Int) == 2) = false := by rw [beq_eq_false_iff_ne]; exact e2
  have p3 : decide ((3 : Int) < s.st) = false := by simpa using e3
  clear e1 e2
  simp only [Ls.cs]
  go_enter Try.func12, Try.ntmps12
  go_wp2
  generalize w.alloc (.cells #[.int .i64 m.op, .int .u32 m.id, .int .u32 m.yours, .int .u8 m.cl.a, .int .u8 m.cl.b, .int .u8 m.cl.c, .int .u8 m.cl.d, .int .u8 m.cl.e, .int .u8 m.cl.f, .int .i64 m.ty, .int .u32 m.server, .int .u32 m.asked, .int .i64 m.time, .int .u32 m.mask, .int .u32 m.router, .int .u32 m.resolver] 27) = W at M0 hb g0 ⊢
  have d0 : W.cell? ⟨w.heap.size, 0, none⟩ = some (.int .i64 m.op) := Blk.cell M0.out 0
  have d1 : W.cell? ⟨w.heap.size, 1, none⟩ = some (.int .u32 m.id) := Blk.cell M0.out 1
  have d2 : W.cell? ⟨w.heap.size, 2, none⟩ = some (.int .u32 m.yours) := Blk.cell M0.out 2
  have d3 : W.cell? ⟨w.heap.size, 3, none⟩ = some (.int .u8 m.cl.a) := Blk.cell M0.out 3
  have d4 : W.cell? ⟨w.heap.size, 4, none⟩ = some (.int .u8 m.cl.b) := Blk.cell M0.out 4
  have d5 : W.cell? ⟨w.heap.size, 5, none⟩ = some (.int .u8 m.cl.c) := Blk.cell M0.out 5
  have d6 : W.cell? ⟨w.heap.size, 6, none⟩ = some (.int .u8 m.cl.d) := Blk.cell M0.out 6
  have d7 : W.cell? ⟨w.heap.size, 7, none⟩ = some (.int .u8 m.cl.e) := Blk.cell M0.out 7
  have d8 : W.cell? ⟨w.heap.size, 8, none⟩ = some (.int .u8 m.cl.f) := Blk.cell M0.out 8
  have d9 : W.cell? ⟨w.heap.size, 9, none⟩ = some (.int .i64 m.ty) := Blk.cell M0.out 9
  have d10 : W.cell? ⟨w.heap.size, 10, none⟩ = some (.int .u32 m.server) := Blk.cell M0.out 10
  have d11 : W.cell? ⟨w.heap.size, 11, none⟩ = some (.int .u32 m.asked) := Blk.cell M0.out 11
  have d12 : W.cell? ⟨w.heap.size, 12, none⟩ = some (.int .i64 m.time) := Blk.cell M0.out 12
  have d13 : W.cell? ⟨w.heap.size, 13, none⟩ = some (.int .u32 m.mask) := Blk.cell M0.out 13
  have d14 : W.cell? ⟨w.heap.size, 14, none⟩ = some (.int .u32 m.router) := Blk.cell M0.out 14
  have d15 : W.cell? ⟨w.heap.size, 15, none⟩ = some (.int .u32 m.resolver) := Blk.cell M0.out 15
  have c0 : W.cell? ⟨b, 0, none⟩ = some (.int .u8 mac.a) := Blk.cell hb.out 0
  have c1 : W.cell? ⟨b, 1, none⟩ = some (.int .u8 mac.b) := Blk.cell hb.out 1
  have c2 : W.cell? ⟨b, 2, none⟩ = some (.int .u8 mac.c) := Blk.cell hb.out 2
  have c3 : W.cell? ⟨b, 3, none⟩ = some (.int .u8 mac.d) := Blk.cell hb.out 3
  have c4 : W.cell? ⟨b, 4, none⟩ = some (.int .u8 mac.e) := Blk.cell hb.out 4
  have c5 : W.cell? ⟨b, 5, none⟩ = some (.int .u8 mac.f) := Blk.cell hb.out 5
  have c6 : W.cell? ⟨b, 6, none⟩ = some (.int .i64 s.st) := Blk.cell hb.out 6
  have c7 : W.cell? ⟨b, 7, none⟩ = some (.int .u32 s.id) := Blk.cell hb.out 7
  have c12 : W.cell? ⟨b, 12, none⟩ = some (.int .u32 s.offer.yours) := Blk.cell hb.out 12
  have c20 : W.cell? ⟨b, 20, none⟩ = some (.int .u32 s.offer.server) := Blk.cell hb.out 20
  have c28 : W.cell? ⟨b, 28, none⟩ = some (.int .u32 s.lease.yours) := Blk.cell hb.out 28
  have c36 : W.cell? ⟨b, 36, none⟩ = some (.int .u32 s.lease.server) := Blk.cell hb.out 36
  go_quiet (fail)
  go_wp2
  go_quiet (fail)
  go_wp2
  go_quiet (fail)
  go_wp2
  go_ret
  exact ⟨_, rfl, rfl, (by exact hb.out), (by repeat' (first | exact g0.out | refine only_drewN ?_ _))⟩
set_option maxRecDepth 100000 in
set_option maxHeartbeats 3200000 in
theorem hear_1t (b : Nat) (mac : M6) (s : St) (m : Ls) (now draw : Int) (w : World) (h : IsC w b mac s) (hs : s.ok) (h0 : 0 ≤ now) (h1 : now ≤ 1152921504606846976)
    (a1 : m.op = 2) (a2 : m.id = s.id) (a3 : (m.cl.l != mac.l) = false) (e1 : s.st = 1) (f1 : m.ty ≠ 2) :
    Calls Try.prog 12 #[.pointer (some ⟨b, 0, none⟩), .agg m.cs.toArray, .int .i64 now, .int .i64 draw] w fun e w' => Does w w' b mac s none e := by
  have M0 : Hid (Blk (w.alloc (.cells #[.int .i64 m.op, .int .u32 m.id, .int .u32 m.yours, .int .u8 m.cl.a, .int .u8 m.cl.b, .int .u8 m.cl.c, .int .u8 m.cl.d, .int .u8 m.cl.e, .int .u8 m.cl.f, .int .i64 m.ty, .int .u32 m.server, .int .u32 m.asked, .int .i64 m.time, .int .u32 m.mask, .int .u32 m.router, .int .u32 m.resolver] 27)) w.heap.size 27 m.cs.toArray) := Blk.new _ _ _
  have hb := Lib.hid (h.nx (al (rf w) (.cells #[.int .i64 m.op, .int .u32 m.id, .int .u32 m.yours, .int .u8 m.cl.a, .int .u8 m.cl.b, .int .u8 m.cl.c, .int .u8 m.cl.d, .int .u8 m.cl.e, .int .u8 m.cl.f, .int .i64 m.ty, .int .u32 m.server, .int .u32 m.asked, .int .i64 m.time, .int .u32 m.mask, .int .u32 m.router, .int .u32 m.resolver] 27)))
  have g0 : Hid (w.grownBy (w.alloc (.cells #[.int .i64 m.op, .int .u32 m.id, .int .u32 m.yours, .int .u8 m.cl.a, .int .u8 m.cl.b, .int .u8 m.cl.c, .int .u8 m.cl.d, .int .u8 m.cl.e, .int .u8 m.cl.f, .int .i64 m.ty, .int .u32 m.server, .int .u32 m.asked, .int .i64 m.time, .int .u32 m.mask, .int .u32 m.router, .int .u32 m.resolver] 27)) (some b)) := only_alloc (World.grownBy.refl _ _) _
  have hz : Hid (b < w.heap.size) := Blk.lt h
  have q1 : ((m.op : Int) != 2) = false := by rw [bne_eq_false_iff_eq]; exact a1
  have q2 : ((m.id : Int) != s.id) = false := by rw [bne_eq_false_iff_eq]; exact a2
  have q3 := neq_m6 m.cl mac false a3
  clear a1 a2 a3
  have p1 : ((s.st : Int) == 1) = true := by rw [beq_iff_eq]; exact e1
  have p2 : ((s.st : Int) == 2) = false := by rw [beq_eq_false_iff_ne]; exact (by omega)
  have p3 : decide ((3 : Int) < s.st) = false := by simp; omega
  clear e1
  have r1 : ((m.ty : Int) == 2) = false := by rw [beq_eq_false_iff_ne]; exact f1
  clear f1
  simp only [Ls.cs]
  go_enter Try.func12, Try.ntmps12
  go_wp2
  generalize w.alloc (.cells #[.int .i64 m.op, .int .u32 m.id, .int .u32 m.yours, .int .u8 m.cl.a, .int .u8 m.cl.b, .int .u8 m.cl.c, .int .u8 m.cl.d, .int .u8 m.cl.e, .int .u8 m.cl.f, .int .i64 m.ty, .int .u32 m.server, .int .u32 m.asked, .int .i64 m.time, .int .u32 m.mask, .int .u32 m.router, .int .u32 m.resolver] 27) = W at M0 hb g0 ⊢
  have d0 : W.cell? ⟨w.heap.size, 0, none⟩ = some (.int .i64 m.op) := Blk.cell M0.out 0
  have d1 : W.cell? ⟨w.heap.size, 1, none⟩ = some (.int .u32 m.id) := Blk.cell M0.out 1
  have d2 : W.cell? ⟨w.heap.size, 2, none⟩ = some (.int .u32 m.yours) := Blk.cell M0.out 2
  have d3 : W.cell? ⟨w.heap.size, 3, none⟩ = some (.int .u8 m.cl.a) := Blk.cell M0.out 3
  have d4 : W.cell? ⟨w.heap.size, 4, none⟩ = some (.int .u8 m.cl.b) := Blk.cell M0.out 4
  have d5 : W.cell? ⟨w.heap.size, 5, none⟩ = some (.int .u8 m.cl.c) := Blk.cell M0.out 5
  have d6 : W.cell? ⟨w.heap.size, 6, none⟩ = some (.int .u8 m.cl.d) := Blk.cell M0.out 6
  have d7 : W.cell? ⟨w.heap.size, 7, none⟩ = some (.int .u8 m.cl.e) := Blk.cell M0.out 7
  have d8 : W.cell? ⟨w.heap.size, 8, none⟩ = some (.int .u8 m.cl.f) := Blk.cell M0.out 8
  have d9 : W.cell? ⟨w.heap.size, 9, none⟩ = some (.int .i64 m.ty) := Blk.cell M0.out 9
  have d10 : W.cell? ⟨w.heap.size, 10, none⟩ = some (.int .u32 m.server) := Blk.cell M0.out 10
  have d11 : W.cell? ⟨w.heap.size, 11, none⟩ = some (.int .u32 m.asked) := Blk.cell M0.out 11
  have d12 : W.cell? ⟨w.heap.size, 12, none⟩ = some (.int .i64 m.time) := Blk.cell M0.out 12
  have d13 : W.cell? ⟨w.heap.size, 13, none⟩ = some (.int .u32 m.mask) := Blk.cell M0.out 13
  have d14 : W.cell? ⟨w.heap.size, 14, none⟩ = some (.int .u32 m.router) := Blk.cell M0.out 14
  have d15 : W.cell? ⟨w.heap.size, 15, none⟩ = some (.int .u32 m.resolver) := Blk.cell M0.out 15
  have c0 : W.cell? ⟨b, 0, none⟩ = some (.int .u8 mac.a) := Blk.cell hb.out 0
  have c1 : W.cell? ⟨b, 1, none⟩ = some (.int .u8 mac.b) := Blk.cell hb.out 1
  have c2 : W.cell? ⟨b, 2, none⟩ = some (.int .u8 mac.c) := Blk.cell hb.out 2
  have c3 : W.cell? ⟨b, 3, none⟩ = some (.int .u8 mac.d) := Blk.cell hb.out 3
  have c4 : W.cell? ⟨b, 4, none⟩ = some (.int .u8 mac.e) := Blk.cell hb.out 4
  have c5 : W.cell? ⟨b, 5, none⟩ = some (.int .u8 mac.f) := Blk.cell hb.out 5
  have c6 : W.cell? ⟨b, 6, none⟩ = some (.int .i64 s.st) := Blk.cell hb.out 6
  have c7 : W.cell? ⟨b, 7, none⟩ = some (.int .u32 s.id) := Blk.cell hb.out 7
  have c12 : W.cell? ⟨b, 12, none⟩ = some (.int .u32 s.offer.yours) := Blk.cell hb.out 12
  have c20 : W.cell? ⟨b, 20, none⟩ = some (.int .u32 s.offer.server) := Blk.cell hb.out 20
  have c28 : W.cell? ⟨b, 28, none⟩ = some (.int .u32 s.lease.yours) := Blk.cell hb.out 28
  have c36 : W.cell? ⟨b, 36, none⟩ = some (.int .u32 s.lease.server) := Blk.cell hb.out 36
  go_quiet (fail)
  go_wp2
  go_quiet (fail)
  go_wp2
  go_quiet (fail)
  go_wp2
  go_ret
  exact ⟨_, rfl, rfl, (by exact hb.out), (by repeat' (first | exact g0.out | refine only_drewN ?_ _))⟩
set_option maxRecDepth 100000 in
set_option maxHeartbeats 3200000 in
theorem hear_1y (b : Nat) (mac : M6) (s : St) (m : Ls) (now draw : Int) (w : World) (h : IsC w b mac s) (hs : s.ok) (h0 : 0 ≤ now) (h1 : now ≤ 1152921504606846976)
    (a1 : m.op = 2) (a2 : m.id = s.id) (a3 : (m.cl.l != mac.l) = false) (e1 : s.st = 1) (f1 : m.ty = 2) (f2 : m.yours = 0) :
    Calls Try.prog 12 #[.pointer (some ⟨b, 0, none⟩), .agg m.cs.toArray, .int .i64 now, .int .i64 draw] w fun e w' => Does w w' b mac s none e := by
  have M0 : Hid (Blk (w.alloc (.cells #[.int .i64 m.op, .int .u32 m.id, .int .u32 m.yours, .int .u8 m.cl.a, .int .u8 m.cl.b, .int .u8 m.cl.c, .int .u8 m.cl.d, .int .u8 m.cl.e, .int .u8 m.cl.f, .int .i64 m.ty, .int .u32 m.server, .int .u32 m.asked, .int .i64 m.time, .int .u32 m.mask, .int .u32 m.router, .int .u32 m.resolver] 27)) w.heap.size 27 m.cs.toArray) := Blk.new _ _ _
  have hb := Lib.hid (h.nx (al (rf w) (.cells #[.int .i64 m.op, .int .u32 m.id, .int .u32 m.yours, .int .u8 m.cl.a, .int .u8 m.cl.b, .int .u8 m.cl.c, .int .u8 m.cl.d, .int .u8 m.cl.e, .int .u8 m.cl.f, .int .i64 m.ty, .int .u32 m.server, .int .u32 m.asked, .int .i64 m.time, .int .u32 m.mask, .int .u32 m.router, .int .u32 m.resolver] 27)))
  have g0 : Hid (w.grownBy (w.alloc (.cells #[.int .i64 m.op, .int .u32 m.id, .int .u32 m.yours, .int .u8 m.cl.a, .int .u8 m.cl.b, .int .u8 m.cl.c, .int .u8 m.cl.d, .int .u8 m.cl.e, .int .u8 m.cl.f, .int .i64 m.ty, .int .u32 m.server, .int .u32 m.asked, .int .i64 m.time, .int .u32 m.mask, .int .u32 m.router, .int .u32 m.resolver] 27)) (some b)) := only_alloc (World.grownBy.refl _ _) _
  have hz : Hid (b < w.heap.size) := Blk.lt h
  have q1 : ((m.op : Int) != 2) = false := by rw [bne_eq_false_iff_eq]; exact a1
  have q2 : ((m.id : Int) != s.id) = false := by rw [bne_eq_false_iff_eq]; exact a2
  have q3 := neq_m6 m.cl mac false a3
  clear a1 a2 a3
  have p1 : ((s.st : Int) == 1) = true := by rw [beq_iff_eq]; exact e1
  have p2 : ((s.st : Int) == 2) = false := by rw [beq_eq_false_iff_ne]; exact (by omega)
  have p3 : decide ((3 : Int) < s.st) = false := by simp; omega
  clear e1
  have r1 : ((m.ty : Int) == 2) = true := by rw [beq_iff_eq]; exact f1
  have r2 : ((m.yours : Int) != 0) = false := by rw [bne_eq_false_iff_eq]; exact f2
  clear f1 f2
  simp only [Ls.cs]
  go_enter Try.func12, Try.ntmps12
  go_wp2
  generalize w.alloc (.cells #[.int .i64 m.op, .int .u32 m.id, .int .u32 m.yours, .int .u8 m.cl.a, .int .u8 m.cl.b, .int .u8 m.cl.c, .int .u8 m.cl.d, .int .u8 m.cl.e, .int .u8 m.cl.f, .int .i64 m.ty, .int .u32 m.server, .int .u32 m.asked, .int .i64 m.time, .int .u32 m.mask, .int .u32 m.router, .int .u32 m.resolver] 27) = W at M0 hb g0 ⊢
  have d0 : W.cell? ⟨w.heap.size, 0, none⟩ = some (.int .i64 m.op) := Blk.cell M0.out 0
  have d1 : W.cell? ⟨w.heap.size, 1, none⟩ = some (.int .u32 m.id) := Blk.cell M0.out 1
  have d2 : W.cell? ⟨w.heap.size, 2, none⟩ = some (.int .u32 m.yours) := Blk.cell M0.out 2
  have d3 : W.cell? ⟨w.heap.size, 3, none⟩ = some (.int .u8 m.cl.a) := Blk.cell M0.out 3
  have d4 : W.cell? ⟨w.heap.size, 4, none⟩ = some (.int .u8 m.cl.b) := Blk.cell M0.out 4
  have d5 : W.cell? ⟨w.heap.size, 5, none⟩ = some (.int .u8 m.cl.c) := Blk.cell M0.out 5
  have d6 : W.cell? ⟨w.heap.size, 6, none⟩ = some (.int .u8 m.cl.d) := Blk.cell M0.out 6
  have d7 : W.cell? ⟨w.heap.size, 7, none⟩ = some (.int .u8 m.cl.e) := Blk.cell M0.out 7
  have d8 : W.cell? ⟨w.heap.size, 8, none⟩ = some (.int .u8 m.cl.f) := Blk.cell M0.out 8
  have d9 : W.cell? ⟨w.heap.size, 9, none⟩ = some (.int .i64 m.ty) := Blk.cell M0.out 9
  have d10 : W.cell? ⟨w.heap.size, 10, none⟩ = some (.int .u32 m.server) := Blk.cell M0.out 10
  have d11 : W.cell? ⟨w.heap.size, 11, none⟩ = some (.int .u32 m.asked) := Blk.cell M0.out 11
  have d12 : W.cell? ⟨w.heap.size, 12, none⟩ = some (.int .i64 m.time) := Blk.cell M0.out 12
  have d13 : W.cell? ⟨w.heap.size, 13, none⟩ = some (.int .u32 m.mask) := Blk.cell M0.out 13
  have d14 : W.cell? ⟨w.heap.size, 14, none⟩ = some (.int .u32 m.router) := Blk.cell M0.out 14
  have d15 : W.cell? ⟨w.heap.size, 15, none⟩ = some (.int .u32 m.resolver) := Blk.cell M0.out 15
  have c0 : W.cell? ⟨b, 0, none⟩ = some (.int .u8 mac.a) := Blk.cell hb.out 0
  have c1 : W.cell? ⟨b, 1, none⟩ = some (.int .u8 mac.b) := Blk.cell hb.out 1
  have c2 : W.cell? ⟨b, 2, none⟩ = some (.int .u8 mac.c) := Blk.cell hb.out 2
  have c3 : W.cell? ⟨b, 3, none⟩ = some (.int .u8 mac.d) := Blk.cell hb.out 3
  have c4 : W.cell? ⟨b, 4, none⟩ = some (.int .u8 mac.e) := Blk.cell hb.out 4
  have c5 : W.cell? ⟨b, 5, none⟩ = some (.int .u8 mac.f) := Blk.cell hb.out 5
  have c6 : W.cell? ⟨b, 6, none⟩ = some (.int .i64 s.st) := Blk.cell hb.out 6
  have c7 : W.cell? ⟨b, 7, none⟩ = some (.int .u32 s.id) := Blk.cell hb.out 7
  have c12 : W.cell? ⟨b, 12, none⟩ = some (.int .u32 s.offer.yours) := Blk.cell hb.out 12
  have c20 : W.cell? ⟨b, 20, none⟩ = some (.int .u32 s.offer.server) := Blk.cell hb.out 20
  have c28 : W.cell? ⟨b, 28, none⟩ = some (.int .u32 s.lease.yours) := Blk.cell hb.out 28
  have c36 : W.cell? ⟨b, 36, none⟩ = some (.int .u32 s.lease.server) := Blk.cell hb.out 36
  go_quiet (fail)
  go_wp2
  go_quiet (fail)
  go_wp2
  go_quiet (fail)
  go_wp2
  go_ret
  exact ⟨_, rfl, rfl, (by exact hb.out), (by repeat' (first | exact g0.out | refine only_drewN ?_ _))⟩
set_option maxRecDepth 100000 in
set_option maxHeartbeats 3200000 in
theorem hear_1s (b : Nat) (mac : M6) (s : St) (m : Ls) (now draw : Int) (w : World) (h : IsC w b mac s) (hs : s.ok) (h0 : 0 ≤ now) (h1 : now ≤ 1152921504606846976)
    (a1 : m.op = 2) (a2 : m.id = s.id) (a3 : (m.cl.l != mac.l) = false) (e1 : s.st = 1) (f1 : m.ty = 2) (f2 : m.yours ≠ 0) (f3 : m.server = 0) :
    Calls Try.prog 12 #[.pointer (some ⟨b, 0, none⟩), .agg m.cs.toArray, .int .i64 now, .int .i64 draw] w fun e w' => Does w w' b mac s none e := by
  have M0 : Hid (Blk (w.alloc (.cells #[.int .i64 m.op, .int .u32 m.id, .int .u32 m.yours, .int .u8 m.cl.a, .int .u8 m.cl.b, .int .u8 m.cl.c, .int .u8 m.cl.d, .int .u8 m.cl.e, .int .u8 m.cl.f, .int .i64 m.ty, .int .u32 m.server, .int .u32 m.asked, .int .i64 m.time, .int .u32 m.mask, .int .u32 m.router, .int .u32 m.resolver] 27)) w.heap.size 27 m.cs.toArray) := Blk.new _ _ _
  have hb := Lib.hid (h.nx (al (rf w) (.cells #[.int .i64 m.op, .int .u32 m.id, .int .u32 m.yours, .int .u8 m.cl.a, .int .u8 m.cl.b, .int .u8 m.cl.c, .int .u8 m.cl.d, .int .u8 m.cl.e, .int .u8 m.cl.f, .int .i64 m.ty, .int .u32 m.server, .int .u32 m.asked, .int .i64 m.time, .int .u32 m.mask, .int .u32 m.router, .int .u32 m.resolver] 27)))
  have g0 : Hid (w.grownBy (w.alloc (.cells #[.int .i64 m.op, .int .u32 m.id, .int .u32 m.yours, .int .u8 m.cl.a, .int .u8 m.cl.b, .int .u8 m.cl.c, .int .u8 m.cl.d, .int .u8 m.cl.e, .int .u8 m.cl.f, .int .i64 m.ty, .int .u32 m.server, .int .u32 m.asked, .int .i64 m.time, .int .u32 m.mask, .int .u32 m.router, .int .u32 m.resolver] 27)) (some b)) := only_alloc (World.grownBy.refl _ _) _
  have hz : Hid (b < w.heap.size) := Blk.lt h
  have q1 : ((m.op : Int) != 2) = false := by rw [bne_eq_false_iff_eq]; exact a1
  have q2 : ((m.id : Int) != s.id) = false := by rw [bne_eq_false_iff_eq]; exact a2
  have q3 := neq_m6 m.cl mac false a3
  clear a1 a2 a3
  have p1 : ((s.st : Int) == 1) = true := by rw [beq_iff_eq]; exact e1
  have p2 : ((s.st : Int) == 2) = false := by rw [beq_eq_false_iff_ne]; exact (by omega)
  have p3 : decide ((3 : Int) < s.st) = false := by simp; omega
  clear e1
  have r1 : ((m.ty : Int) == 2) = true := by rw [beq_iff_eq]; exact f1
  have r2 : ((m.yours : Int) != 0) = true := by rw [bne_iff_ne]; exact f2
  have r3 : ((m.server : Int) != 0) = false := by rw [bne_eq_false_iff_eq]; exact f3
  clear f1 f2 f3
  simp only [Ls.cs]
  go_enter Try.func12, Try.ntmps12
  go_wp2
  generalize w.alloc (.cells #[.int .i64 m.op, .int .u32 m.id, .int .u32 m.yours, .int .u8 m.cl.a, .int .u8 m.cl.b, .int .u8 m.cl.c, .int .u8 m.cl.d, .int .u8 m.cl.e, .int .u8 m.cl.f, .int .i64 m.ty, .int .u32 m.server, .int .u32 m.asked, .int .i64 m.time, .int .u32 m.mask, .int .u32 m.router, .int .u32 m.resolver] 27) = W at M0 hb g0 ⊢
  have d0 : W.cell? ⟨w.heap.size, 0, none⟩ = some (.int .i64 m.op) := Blk.cell M0.out 0
  have d1 : W.cell? ⟨w.heap.size, 1, none⟩ = some (.int .u32 m.id) := Blk.cell M0.out 1
  have d2 : W.cell? ⟨w.heap.size, 2, none⟩ = some (.int .u32 m.yours) := Blk.cell M0.out 2
  have d3 : W.cell? ⟨w.heap.size, 3, none⟩ = some (.int .u8 m.cl.a) := Blk.cell M0.out 3
  have d4 : W.cell? ⟨w.heap.size, 4, none⟩ = some (.int .u8 m.cl.b) := Blk.cell M0.out 4
  have d5 : W.cell? ⟨w.heap.size, 5, none⟩ = some (.int .u8 m.cl.c) := Blk.cell M0.out 5
  have d6 : W.cell? ⟨w.heap.size, 6, none⟩ = some (.int .u8 m.cl.d) := Blk.cell M0.out 6
  have d7 : W.cell? ⟨w.heap.size, 7, none⟩ = some (.int .u8 m.cl.e) := Blk.cell M0.out 7
  have d8 : W.cell? ⟨w.heap.size, 8, none⟩ = some (.int .u8 m.cl.f) := Blk.cell M0.out 8
  have d9 : W.cell? ⟨w.heap.size, 9, none⟩ = some (.int .i64 m.ty) := Blk.cell M0.out 9
  have d10 : W.cell? ⟨w.heap.size, 10, none⟩ = some (.int .u32 m.server) := Blk.cell M0.out 10
  have d11 : W.cell? ⟨w.heap.size, 11, none⟩ = some (.int .u32 m.asked) := Blk.cell M0.out 11
  have d12 : W.cell? ⟨w.heap.size, 12, none⟩ = some (.int .i64 m.time) := Blk.cell M0.out 12
  have d13 : W.cell? ⟨w.heap.size, 13, none⟩ = some (.int .u32 m.mask) := Blk.cell M0.out 13
  have d14 : W.cell? ⟨w.heap.size, 14, none⟩ = some (.int .u32 m.router) := Blk.cell M0.out 14
  have d15 : W.cell? ⟨w.heap.size, 15, none⟩ = some (.int .u32 m.resolver) := Blk.cell M0.out 15
  have c0 : W.cell? ⟨b, 0, none⟩ = some (.int .u8 mac.a) := Blk.cell hb.out 0
  have c1 : W.cell? ⟨b, 1, none⟩ = some (.int .u8 mac.b) := Blk.cell hb.out 1
  have c2 : W.cell? ⟨b, 2, none⟩ = some (.int .u8 mac.c) := Blk.cell hb.out 2
  have c3 : W.cell? ⟨b, 3, none⟩ = some (.int .u8 mac.d) := Blk.cell hb.out 3
  have c4 : W.cell? ⟨b, 4, none⟩ = some (.int .u8 mac.e) := Blk.cell hb.out 4
  have c5 : W.cell? ⟨b, 5, none⟩ = some (.int .u8 mac.f) := Blk.cell hb.out 5
  have c6 : W.cell? ⟨b, 6, none⟩ = some (.int .i64 s.st) := Blk.cell hb.out 6
  have c7 : W.cell? ⟨b, 7, none⟩ = some (.int .u32 s.id) := Blk.cell hb.out 7
  have c12 : W.cell? ⟨b, 12, none⟩ = some (.int .u32 s.offer.yours) := Blk.cell hb.out 12
  have c20 : W.cell? ⟨b, 20, none⟩ = some (.int .u32 s.offer.server) := Blk.cell hb.out 20
  have c28 : W.cell? ⟨b, 28, none⟩ = some (.int .u32 s.lease.yours) := Blk.cell hb.out 28
  have c36 : W.cell? ⟨b, 36, none⟩ = some (.int .u32 s.lease.server) := Blk.cell hb.out 36
  go_quiet (fail)
  go_wp2
  go_quiet (fail)
  go_wp2
  go_quiet (fail)
  go_wp2
  go_ret
  exact ⟨_, rfl, rfl, (by exact hb.out), (by repeat' (first | exact g0.out | refine only_drewN ?_ _))⟩
set_option maxRecDepth 100000 in
set_option maxHeartbeats 3200000 in
theorem hear_2t (b : Nat) (mac : M6) (s : St) (m : Ls) (now draw : Int) (w : World) (h : IsC w b mac s) (hs : s.ok) (h0 : 0 ≤ now) (h1 : now ≤ 1152921504606846976)
    (a1 : m.op = 2) (a2 : m.id = s.id) (a3 : (m.cl.l != mac.l) = false) (e1 : s.st = 2) (f1 : m.ty ≠ 5) (f2 : m.ty ≠ 6) :
    Calls Try.prog 12 #[.pointer (some ⟨b, 0, none⟩), .agg m.cs.toArray, .int .i64 now, .int .i64 draw] w fun e w' => Does w w' b mac s none e := by
  have M0 : Hid (Blk (w.alloc (.cells #[.int .i64 m.op, .int .u32 m.id, .int .u32 m.yours, .int .u8 m.cl.a, .int .u8 m.cl.b, .int .u8 m.cl.c, .int .u8 m.cl.d, .int .u8 m.cl.e, .int .u8 m.cl.f, .int .i64 m.ty, .int .u32 m.server, .int .u32 m.asked, .int .i64 m.time, .int .u32 m.mask, .int .u32 m.router, .int .u32 m.resolver] 27)) w.heap.size 27 m.cs.toArray) := Blk.new _ _ _
  have hb := Lib.hid (h.nx (al (rf w) (.cells #[.int .i64 m.op, .int .u32 m.id, .int .u32 m.yours, .int .u8 m.cl.a, .int .u8 m.cl.b, .int .u8 m.cl.c, .int .u8 m.cl.d, .int .u8 m.cl.e, .int .u8 m.cl.f, .int .i64 m.ty, .int .u32 m.server, .int .u32 m.asked, .int .i64 m.time, .int .u32 m.mask, .int .u32 m.router, .int .u32 m.resolver] 27)))
  have g0 : Hid (w.grownBy (w.alloc (.cells #[.int .i64 m.op, .int .u32 m.id, .int .u32 m.yours, .int .u8 m.cl.a, .int .u8 m.cl.b, .int .u8 m.cl.c, .int .u8 m.cl.d, .int .u8 m.cl.e, .int .u8 m.cl.f, .int .i64 m.ty, .int .u32 m.server, .int .u32 m.asked, .int .i64 m.time, .int .u32 m.mask, .int .u32 m.router, .int .u32 m.resolver] 27)) (some b)) := only_alloc (World.grownBy.refl _ _) _
  have hz : Hid (b < w.heap.size) := Blk.lt h
  have q1 : ((m.op : Int) != 2) = false := by rw [bne_eq_false_iff_eq]; exact a1
  have q2 : ((m.id : Int) != s.id) = false := by rw [bne_eq_false_iff_eq]; exact a2
  have q3 := neq_m6 m.cl mac false a3
  clear a1 a2 a3
  have p1 : ((s.st : Int) == 1) = false := by rw [beq_eq_false_iff_ne]; exact (by omega)
  have p2 : ((s.st : Int) == 2) = true := by rw [beq_iff_eq]; exact e1
  have p3 : decide ((3 : Int) < s.st) = false := by simp; omega
  clear e1
  have r1 : ((m.ty : Int) == 5) = false := by rw [beq_eq_false_iff_ne]; exact f1
  have r2 : ((m.ty : Int) == 6) = false := by rw [beq_eq_false_iff_ne]; exact f2
  clear f1 f2
  simp only [Ls.cs]
  go_enter Try.func12, Try.ntmps12
  go_wp2
  generalize w.alloc (.cells #[.int .i64 m.op, .int .u32 m.id, .int .u32 m.yours, .int .u8 m.cl.a, .int .u8 m.cl.b, .int .u8 m.cl.c, .int .u8 m.cl.d, .int .u8 m.cl.e, .int .u8 m.cl.f, .int .i64 m.ty, .int .u32 m.server, .int .u32 m.asked, .int .i64 m.time, .int .u32 m.mask, .int .u32 m.router, .int .u32 m.resolver] 27) = W at M0 hb g0 ⊢
  have d0 : W.cell? ⟨w.heap.size, 0, none⟩ = some (.int .i64 m.op) := Blk.cell M0.out 0
  have d1 : W.cell? ⟨w.heap.size, 1, none⟩ = some (.int .u32 m.id) := Blk.cell M0.out 1
  have d2 : W.cell? ⟨w.heap.size, 2, none⟩ = some (.int .u32 m.yours) := Blk.cell M0.out 2
  have d3 : W.cell? ⟨w.heap.size, 3, none⟩ = some (.int .u8 m.cl.a) := Blk.cell M0.out 3
  have d4 : W.cell? ⟨w.heap.size, 4, none⟩ = some (.int .u8 m.cl.b) := Blk.cell M0.out 4
  have d5 : W.cell? ⟨w.heap.size, 5, none⟩ = some (.int .u8 m.cl.c) := Blk.cell M0.out 5
  have d6 : W.cell? ⟨w.heap.size, 6, none⟩ = some (.int .u8 m.cl.d) := Blk.cell M0.out 6
  have d7 : W.cell? ⟨w.heap.size, 7, none⟩ = some (.int .u8 m.cl.e) := Blk.cell M0.out 7
  have d8 : W.cell? ⟨w.heap.size, 8, none⟩ = some (.int .u8 m.cl.f) := Blk.cell M0.out 8
  have d9 : W.cell? ⟨w.heap.size, 9, none⟩ = some (.int .i64 m.ty) := Blk.cell M0.out 9
  have d10 : W.cell? ⟨w.heap.size, 10, none⟩ = some (.int .u32 m.server) := Blk.cell M0.out 10
  have d11 : W.cell? ⟨w.heap.size, 11, none⟩ = some (.int .u32 m.asked) := Blk.cell M0.out 11
  have d12 : W.cell? ⟨w.heap.size, 12, none⟩ = some (.int .i64 m.time) := Blk.cell M0.out 12
  have d13 : W.cell? ⟨w.heap.size, 13, none⟩ = some (.int .u32 m.mask) := Blk.cell M0.out 13
  have d14 : W.cell? ⟨w.heap.size, 14, none⟩ = some (.int .u32 m.router) := Blk.cell M0.out 14
  have d15 : W.cell? ⟨w.heap.size, 15, none⟩ = some (.int .u32 m.resolver) := Blk.cell M0.out 15
  have c0 : W.cell? ⟨b, 0, none⟩ = some (.int .u8 mac.a) := Blk.cell hb.out 0
  have c1 : W.cell? ⟨b, 1, none⟩ = some (.int .u8 mac.b) := Blk.cell hb.out 1
  have c2 : W.cell? ⟨b, 2, none⟩ = some (.int .u8 mac.c) := Blk.cell hb.out 2
  have c3 : W.cell? ⟨b, 3, none⟩ = some (.int .u8 mac.d) := Blk.cell hb.out 3
  have c4 : W.cell? ⟨b, 4, none⟩ = some (.int .u8 mac.e) := Blk.cell hb.out 4
  have c5 : W.cell? ⟨b, 5, none⟩ = some (.int .u8 mac.f) := Blk.cell hb.out 5
  have c6 : W.cell? ⟨b, 6, none⟩ = some (.int .i64 s.st) := Blk.cell hb.out 6
  have c7 : W.cell? ⟨b, 7, none⟩ = some (.int .u32 s.id) := Blk.cell hb.out 7
  have c12 : W.cell? ⟨b, 12, none⟩ = some (.int .u32 s.offer.yours) := Blk.cell hb.out 12
  have c20 : W.cell? ⟨b, 20, none⟩ = some (.int .u32 s.offer.server) := Blk.cell hb.out 20
  have c28 : W.cell? ⟨b, 28, none⟩ = some (.int .u32 s.lease.yours) := Blk.cell hb.out 28
  have c36 : W.cell? ⟨b, 36, none⟩ = some (.int .u32 s.lease.server) := Blk.cell hb.out 36
  go_quiet (fail)
  go_wp2
  go_quiet (fail)
  go_wp2
  go_quiet (fail)
  go_wp2
  go_ret
  exact ⟨_, rfl, rfl, (by exact hb.out), (by repeat' (first | exact g0.out | refine only_drewN ?_ _))⟩
set_option maxRecDepth 100000 in
set_option maxHeartbeats 3200000 in
theorem hear_2y (b : Nat) (mac : M6) (s : St) (m : Ls) (now draw : Int) (w : World) (h : IsC w b mac s) (hs : s.ok) (h0 : 0 ≤ now) (h1 : now ≤ 1152921504606846976)
    (a1 : m.op = 2) (a2 : m.id = s.id) (a3 : (m.cl.l != mac.l) = false) (e1 : s.st = 2) (f1 : m.ty = 5) (f2 : m.yours ≠ s.offer.yours) :
    Calls Try.prog 12 #[.pointer (some ⟨b, 0, none⟩), .agg m.cs.toArray, .int .i64 now, .int .i64 draw] w fun e w' => Does w w' b mac s none e := by
  have M0 : Hid (Blk (w.alloc (.cells #[.int .i64 m.op, .int .u32 m.id, .int .u32 m.yours, .int .u8 m.cl.a, .int .u8 m.cl.b, .int .u8 m.cl.c, .int .u8 m.cl.d, .int .u8 m.cl.e, .int .u8 m.cl.f, .int .i64 m.ty, .int .u32 m.server, .int .u32 m.asked, .int .i64 m.time, .int .u32 m.mask, .int .u32 m.router, .int .u32 m.resolver] 27)) w.heap.size 27 m.cs.toArray) := Blk.new _ _ _
  have hb := Lib.hid (h.nx (al (rf w) (.cells #[.int .i64 m.op, .int .u32 m.id, .int .u32 m.yours, .int .u8 m.cl.a, .int .u8 m.cl.b, .int .u8 m.cl.c, .int .u8 m.cl.d, .int .u8 m.cl.e, .int .u8 m.cl.f, .int .i64 m.ty, .int .u32 m.server, .int .u32 m.asked, .int .i64 m.time, .int .u32 m.mask, .int .u32 m.router, .int .u32 m.resolver] 27)))
  have g0 : Hid (w.grownBy (w.alloc (.cells #[.int .i64 m.op, .int .u32 m.id, .int .u32 m.yours, .int .u8 m.cl.a, .int .u8 m.cl.b, .int .u8 m.cl.c, .int .u8 m.cl.d, .int .u8 m.cl.e, .int .u8 m.cl.f, .int .i64 m.ty, .int .u32 m.server, .int .u32 m.asked, .int .i64 m.time, .int .u32 m.mask, .int .u32 m.router, .int .u32 m.resolver] 27)) (some b)) := only_alloc (World.grownBy.refl _ _) _
  have hz : Hid (b < w.heap.size) := Blk.lt h
  have q1 : ((m.op : Int) != 2) = false := by rw [bne_eq_false_iff_eq]; exact a1
  have q2 : ((m.id : Int) != s.id) = false := by rw [bne_eq_false_iff_eq]; exact a2
  have q3 := neq_m6 m.cl mac false a3
  clear a1 a2 a3
  have p1 : ((s.st : Int) == 1) = false := by rw [beq_eq_false_iff_ne]; exact (by omega)
  have p2 : ((s.st : Int) == 2) = true := by rw [beq_iff_eq]; exact e1
  have p3 : decide ((3 : Int) < s.st) = false := by simp; omega
  clear e1
  have r1 : ((m.ty : Int) == 5) = true := by rw [beq_iff_eq]; exact f1
  have r2 : ((m.ty : Int) == 6) = false := by rw [beq_eq_false_iff_ne]; exact (by omega)
  have r3 : ((m.yours : Int) == s.offer.yours) = false := by rw [beq_eq_false_iff_ne]; exact f2
  clear f1 f2
  simp only [Ls.cs]
  go_enter Try.func12, Try.ntmps12
  go_wp2
  generalize w.alloc (.cells #[.int .i64 m.op, .int .u32 m.id, .int .u32 m.yours, .int .u8 m.cl.a, .int .u8 m.cl.b, .int .u8 m.cl.c, .int .u8 m.cl.d, .int .u8 m.cl.e, .int .u8 m.cl.f, .int .i64 m.ty, .int .u32 m.server, .int .u32 m.asked, .int .i64 m.time, .int .u32 m.mask, .int .u32 m.router, .int .u32 m.resolver] 27) = W at M0 hb g0 ⊢
  have d0 : W.cell? ⟨w.heap.size, 0, none⟩ = some (.int .i64 m.op) := Blk.cell M0.out 0
  have d1 : W.cell? ⟨w.heap.size, 1, none⟩ = some (.int .u32 m.id) := Blk.cell M0.out 1
  have d2 : W.cell? ⟨w.heap.size, 2, none⟩ = some (.int .u32 m.yours) := Blk.cell M0.out 2
  have d3 : W.cell? ⟨w.heap.size, 3, none⟩ = some (.int .u8 m.cl.a) := Blk.cell M0.out 3
  have d4 : W.cell? ⟨w.heap.size, 4, none⟩ = some (.int .u8 m.cl.b) := Blk.cell M0.out 4
  have d5 : W.cell? ⟨w.heap.size, 5, none⟩ = some (.int .u8 m.cl.c) := Blk.cell M0.out 5
  have d6 : W.cell? ⟨w.heap.size, 6, none⟩ = some (.int .u8 m.cl.d) := Blk.cell M0.out 6
  have d7 : W.cell? ⟨w.heap.size, 7, none⟩ = some (.int .u8 m.cl.e) := Blk.cell M0.out 7
  have d8 : W.cell? ⟨w.heap.size, 8, none⟩ = some (.int .u8 m.cl.f) := Blk.cell M0.out 8
  have d9 : W.cell? ⟨w.heap.size, 9, none⟩ = some (.int .i64 m.ty) := Blk.cell M0.out 9
  have d10 : W.cell? ⟨w.heap.size, 10, none⟩ = some (.int .u32 m.server) := Blk.cell M0.out 10
  have d11 : W.cell? ⟨w.heap.size, 11, none⟩ = some (.int .u32 m.asked) := Blk.cell M0.out 11
  have d12 : W.cell? ⟨w.heap.size, 12, none⟩ = some (.int .i64 m.time) := Blk.cell M0.out 12
  have d13 : W.cell? ⟨w.heap.size, 13, none⟩ = some (.int .u32 m.mask) := Blk.cell M0.out 13
  have d14 : W.cell? ⟨w.heap.size, 14, none⟩ = some (.int .u32 m.router) := Blk.cell M0.out 14
  have d15 : W.cell? ⟨w.heap.size, 15, none⟩ = some (.int .u32 m.resolver) := Blk.cell M0.out 15
  have c0 : W.cell? ⟨b, 0, none⟩ = some (.int .u8 mac.a) := Blk.cell hb.out 0
  have c1 : W.cell? ⟨b, 1, none⟩ = some (.int .u8 mac.b) := Blk.cell hb.out 1
  have c2 : W.cell? ⟨b, 2, none⟩ = some (.int .u8 mac.c) := Blk.cell hb.out 2
  have c3 : W.cell? ⟨b, 3, none⟩ = some (.int .u8 mac.d) := Blk.cell hb.out 3
  have c4 : W.cell? ⟨b, 4, none⟩ = some (.int .u8 mac.e) := Blk.cell hb.out 4
  have c5 : W.cell? ⟨b, 5, none⟩ = some (.int .u8 mac.f) := Blk.cell hb.out 5
  have c6 : W.cell? ⟨b, 6, none⟩ = some (.int .i64 s.st) := Blk.cell hb.out 6
  have c7 : W.cell? ⟨b, 7, none⟩ = some (.int .u32 s.id) := Blk.cell hb.out 7
  have c12 : W.cell? ⟨b, 12, none⟩ = some (.int .u32 s.offer.yours) := Blk.cell hb.out 12
  have c20 : W.cell? ⟨b, 20, none⟩ = some (.int .u32 s.offer.server) := Blk.cell hb.out 20
  have c28 : W.cell? ⟨b, 28, none⟩ = some (.int .u32 s.lease.yours) := Blk.cell hb.out 28
  have c36 : W.cell? ⟨b, 36, none⟩ = some (.int .u32 s.lease.server) := Blk.cell hb.out 36
  go_quiet (fail)
  go_wp2
  go_quiet (fail)
  go_wp2
  go_quiet (fail)
  go_wp2
  go_ret
  exact ⟨_, rfl, rfl, (by exact hb.out), (by repeat' (first | exact g0.out | refine only_drewN ?_ _))⟩
set_option maxRecDepth 100000 in
set_option maxHeartbeats 3200000 in
theorem hear_2r (b : Nat) (mac : M6) (s : St) (m : Ls) (now draw : Int) (w : World) (h : IsC w b mac s) (hs : s.ok) (h0 : 0 ≤ now) (h1 : now ≤ 1152921504606846976)
    (a1 : m.op = 2) (a2 : m.id = s.id) (a3 : (m.cl.l != mac.l) = false) (e1 : s.st = 2) (f1 : m.ty = 6) :
    Calls Try.prog 12 #[.pointer (some ⟨b, 0, none⟩), .agg m.cs.toArray, .int .i64 now, .int .i64 draw] w fun e w' => Does w w' b mac (beginS s now draw) (some (sameM mac (beginS s now draw))) e := by
  have M0 : Hid (Blk (w.alloc (.cells #[.int .i64 m.op, .int .u32 m.id, .int .u32 m.yours, .int .u8 m.cl.a, .int .u8 m.cl.b, .int .u8 m.cl.c, .int .u8 m.cl.d, .int .u8 m.cl.e, .int .u8 m.cl.f, .int .i64 m.ty, .int .u32 m.server, .int .u32 m.asked, .int .i64 m.time, .int .u32 m.mask, .int .u32 m.router, .int .u32 m.resolver] 27)) w.heap.size 27 m.cs.toArray) := Blk.new _ _ _
  have hb := Lib.hid (h.nx (al (rf w) (.cells #[.int .i64 m.op, .int .u32 m.id, .int .u32 m.yours, .int .u8 m.cl.a, .int .u8 m.cl.b, .int .u8 m.cl.c, .int .u8 m.cl.d, .int .u8 m.cl.e, .int .u8 m.cl.f, .int .i64 m.ty, .int .u32 m.server, .int .u32 m.asked, .int .i64 m.time, .int .u32 m.mask, .int .u32 m.router, .int .u32 m.resolver] 27)))
  have g0 : Hid (w.grownBy (w.alloc (.cells #[.int .i64 m.op, .int .u32 m.id, .int .u32 m.yours, .int .u8 m.cl.a, .int .u8 m.cl.b, .int .u8 m.cl.c, .int .u8 m.cl.d, .int .u8 m.cl.e, .int .u8 m.cl.f, .int .i64 m.ty, .int .u32 m.server, .int .u32 m.asked, .int .i64 m.time, .int .u32 m.mask, .int .u32 m.router, .int .u32 m.resolver] 27)) (some b)) := only_alloc (World.grownBy.refl _ _) _
  have hz : Hid (b < w.heap.size) := Blk.lt h
  have q1 : ((m.op : Int) != 2) = false := by rw [bne_eq_false_iff_eq]; exact a1
  have q2 : ((m.id : Int) != s.id) = false := by rw [bne_eq_false_iff_eq]; exact a2
  have q3 := neq_m6 m.cl mac false a3
  clear a1 a2 a3
  have p1 : ((s.st : Int) == 1) = false := by rw [beq_eq_false_iff_ne]; exact (by omega)
  have p2 : ((s.st : Int) == 2) = true := by rw [beq_iff_eq]; exact e1
  have p3 : decide ((3 : Int) < s.st) = false := by simp; omega
  clear e1
  have r1 : ((m.ty : Int) == 5) = false := by rw [beq_eq_false_iff_ne]; exact (by omega)
  have r2 : ((m.ty : Int) == 6) = true := by rw [beq_iff_eq]; exact f1
  clear f1
  simp only [Ls.cs]
  go_enter Try.func12, Try.ntmps12
  go_wp2
  generalize w.alloc (.cells #[.int .i64 m.op, .int .u32 m.id, .int .u32 m.yours, .int .u8 m.cl.a, .int .u8 m.cl.b, .int .u8 m.cl.c, .int .u8 m.cl.d, .int .u8 m.cl.e, .int .u8 m.cl.f, .int .i64 m.ty, .int .u32 m.server, .int .u32 m.asked, .int .i64 m.time, .int .u32 m.mask, .int .u32 m.router, .int .u32 m.resolver] 27) = W at M0 hb g0 ⊢
  have d0 : W.cell? ⟨w.heap.size, 0, none⟩ = some (.int .i64 m.op) := Blk.cell M0.out 0
  have d1 : W.cell? ⟨w.heap.size, 1, none⟩ = some (.int .u32 m.id) := Blk.cell M0.out 1
  have d2 : W.cell? ⟨w.heap.size, 2, none⟩ = some (.int .u32 m.yours) := Blk.cell M0.out 2
  have d3 : W.cell? ⟨w.heap.size, 3, none⟩ = some (.int .u8 m.cl.a) := Blk.cell M0.out 3
  have d4 : W.cell? ⟨w.heap.size, 4, none⟩ = some (.int .u8 m.cl.b) := Blk.cell M0.out 4
  have d5 : W.cell? ⟨w.heap.size, 5, none⟩ = some (.int .u8 m.cl.c) := Blk.cell M0.out 5
  have d6 : W.cell? ⟨w.heap.size, 6, none⟩ = some (.int .u8 m.cl.d) := Blk.cell M0.out 6
  have d7 : W.cell? ⟨w.heap.size, 7, none⟩ = some (.int .u8 m.cl.e) := Blk.cell M0.out 7
  have d8 : W.cell? ⟨w.heap.size, 8, none⟩ = some (.int .u8 m.cl.f) := Blk.cell M0.out 8
  have d9 : W.cell? ⟨w.heap.size, 9, none⟩ = some (.int .i64 m.ty) := Blk.cell M0.out 9
  have d10 : W.cell? ⟨w.heap.size, 10, none⟩ = some (.int .u32 m.server) := Blk.cell M0.out 10
  have d11 : W.cell? ⟨w.heap.size, 11, none⟩ = some (.int .u32 m.asked) := Blk.cell M0.out 11
  have d12 : W.cell? ⟨w.heap.size, 12, none⟩ = some (.int .i64 m.time) := Blk.cell M0.out 12
  have d13 : W.cell? ⟨w.heap.size, 13, none⟩ = some (.int .u32 m.mask) := Blk.cell M0.out 13
  have d14 : W.cell? ⟨w.heap.size, 14, none⟩ = some (.int .u32 m.router) := Blk.cell M0.out 14
  have d15 : W.cell? ⟨w.heap.size, 15, none⟩ = some (.int .u32 m.resolver) := Blk.cell M0.out 15
  have c0 : W.cell? ⟨b, 0, none⟩ = some (.int .u8 mac.a) := Blk.cell hb.out 0
  have c1 : W.cell? ⟨b, 1, none⟩ = some (.int .u8 mac.b) := Blk.cell hb.out 1
  have c2 : W.cell? ⟨b, 2, none⟩ = some (.int .u8 mac.c) := Blk.cell hb.out 2
  have c3 : W.cell? ⟨b, 3, none⟩ = some (.int .u8 mac.d) := Blk.cell hb.out 3
  have c4 : W.cell? ⟨b, 4, none⟩ = some (.int .u8 mac.e) := Blk.cell hb.out 4
  have c5 : W.cell? ⟨b, 5, none⟩ = some (.int .u8 mac.f) := Blk.cell hb.out 5
  have c6 : W.cell? ⟨b, 6, none⟩ = some (.int .i64 s.st) := Blk.cell hb.out 6
  have c7 : W.cell? ⟨b, 7, none⟩ = some (.int .u32 s.id) := Blk.cell hb.out 7
  have c12 : W.cell? ⟨b, 12, none⟩ = some (.int .u32 s.offer.yours) := Blk.cell hb.out 12
  have c20 : W.cell? ⟨b, 20, none⟩ = some (.int .u32 s.offer.server) := Blk.cell hb.out 20
  have c28 : W.cell? ⟨b, 28, none⟩ = some (.int .u32 s.lease.yours) := Blk.cell hb.out 28
  have c36 : W.cell? ⟨b, 36, none⟩ = some (.int .u32 s.lease.server) := Blk.cell hb.out 36
  go_quiet (fail)
  go_wp2
  go_quiet (fail)
  go_wp2
  go_quiet (fail)
  go_wp2_with fail
  refine (beginsC b mac s now draw _ (by exact hb.out) h0 h1).mono ?_
  rintro e w1 ⟨v, rfl, ho, hC, hg⟩
  go_wp2
  go_ret
  exact ⟨v, rfl, ho.more (by exact g0.out.size), hC, only_trans (by repeat' (first | exact g0.out | refine only_drewN ?_ _)) hg⟩
set_option maxRecDepth 100000 in
set_option maxHeartbeats 3200000 in
theorem hear_2b (b : Nat) (mac : M6) (s : St) (m : Ls) (now draw : Int) (w : World) (h : IsC w b mac s) (hs : s.ok) (h0 : 0 ≤ now) (h1 : now ≤ 1152921504606846976)
    (a1 : m.op = 2) (a2 : m.id = s.id) (a3 : (m.cl.l != mac.l) = false) (e1 : s.st = 2) (f1 : m.ty = 5) (f2 : m.yours = s.offer.yours) :
    Calls Try.prog 12 #[.pointer (some ⟨b, 0, none⟩), .agg m.cs.toArray, .int .i64 now, .int .i64 draw] w fun e w' => Does w w' b mac (bindS s m s.offer.server now) none e := by
  have M0 : Hid (Blk (w.alloc (.cells #[.int .i64 m.op, .int .u32 m.id, .int .u32 m.yours, .int .u8 m.cl.a, .int .u8 m.cl.b, .int .u8 m.cl.c, .int .u8 m.cl.d, .int .u8 m.cl.e, .int .u8 m.cl.f, .int .i64 m.ty, .int .u32 m.server, .int .u32 m.asked, .int .i64 m.time, .int .u32 m.mask, .int .u32 m.router, .int .u32 m.resolver] 27)) w.heap.size 27 m.cs.toArray) := Blk.new _ _ _
  have hb := Lib.hid (h.nx (al (rf w) (.cells #[.int .i64 m.op, .int .u32 m.id, .int .u32 m.yours, .int .u8 m.cl.a, .int .u8 m.cl.b, .int .u8 m.cl.c, .int .u8 m.cl.d, .int .u8 m.cl.e, .int .u8 m.cl.f, .int .i64 m.ty, .int .u32 m.server, .int .u32 m.asked, .int .i64 m.time, .int .u32 m.mask, .int .u32 m.router, .int .u32 m.resolver] 27)))
  have g0 : Hid (w.grownBy (w.alloc (.cells #[.int .i64 m.op, .int .u32 m.id, .int .u32 m.yours, .int .u8 m.cl.a, .int .u8 m.cl.b, .int .u8 m.cl.c, .int .u8 m.cl.d, .int .u8 m.cl.e, .int .u8 m.cl.f, .int .i64 m.ty, .int .u32 m.server, .int .u32 m.asked, .int .i64 m.time, .int .u32 m.mask, .int .u32 m.router, .int .u32 m.resolver] 27)) (some b)) := only_alloc (World.grownBy.refl _ _) _
  have hz : Hid (b < w.heap.size) := Blk.lt h
  have q1 : ((m.op : Int) != 2) = false := by rw [bne_eq_false_iff_eq]; exact a1
  have q2 : ((m.id : Int) != s.id) = false := by rw [bne_eq_false_iff_eq]; exact a2
  have q3 := neq_m6 m.cl mac false a3
  clear a1 a2 a3
  have p1 : ((s.st : Int) == 1) = false := by rw [beq_eq_false_iff_ne]; exact (by omega)
  have p2 : ((s.st : Int) == 2) = true := by rw [beq_iff_eq]; exact e1
  have p3 : decide ((3 : Int) < s.st) = false := by simp; omega
  clear e1
  have r1 : ((m.ty : Int) == 5) = true := by rw [beq_iff_eq]; exact f1
  have r3 : ((m.yours : Int) == s.offer.yours) = true := by rw [beq_iff_eq]; exact f2
  clear f1 f2
  simp only [Ls.cs]
  go_enter Try.func12, Try.ntmps12
  go_wp2
  generalize w.alloc (.cells #[.int .i64 m.op, .int .u32 m.id, .int .u32 m.yours, .int .u8 m.cl.a, .int .u8 m.cl.b, .int .u8 m.cl.c, .int .u8 m.cl.d, .int .u8 m.cl.e, .int .u8 m.cl.f, .int .i64 m.ty, .int .u32 m.server, .int .u32 m.asked, .int .i64 m.time, .int .u32 m.mask, .int .u32 m.router, .int .u32 m.resolver] 27) = W at M0 hb g0 ⊢
  have d0 : W.cell? ⟨w.heap.size, 0, none⟩ = some (.int .i64 m.op) := Blk.cell M0.out 0
  have d1 : W.cell? ⟨w.heap.size, 1, none⟩ = some (.int .u32 m.id) := Blk.cell M0.out 1
  have d2 : W.cell? ⟨w.heap.size, 2, none⟩ = some (.int .u32 m.yours) := Blk.cell M0.out 2
  have d3 : W.cell? ⟨w.heap.size, 3, none⟩ = some (.int .u8 m.cl.a) := Blk.cell M0.out 3
  have d4 : W.cell? ⟨w.heap.size, 4, none⟩ = some (.int .u8 m.cl.b) := Blk.cell M0.out 4
  have d5 : W.cell? ⟨w.heap.size, 5, none⟩ = some (.int .u8 m.cl.c) := Blk.cell M0.out 5
  have d6 : W.cell? ⟨w.heap.size, 6, none⟩ = some (.int .u8 m.cl.d) := Blk.cell M0.out 6
  have d7 : W.cell? ⟨w.heap.size, 7, none⟩ = some (.int .u8 m.cl.e) := Blk.cell M0.out 7
  have d8 : W.cell? ⟨w.heap.size, 8, none⟩ = some (.int .u8 m.cl.f) := Blk.cell M0.out 8
  have d9 : W.cell? ⟨w.heap.size, 9, none⟩ = some (.int .i64 m.ty) := Blk.cell M0.out 9
  have d10 : W.cell? ⟨w.heap.size, 10, none⟩ = some (.int .u32 m.server) := Blk.cell M0.out 10
  have d11 : W.cell? ⟨w.heap.size, 11, none⟩ = some (.int .u32 m.asked) := Blk.cell M0.out 11
  have d12 : W.cell? ⟨w.heap.size, 12, none⟩ = some (.int .i64 m.time) := Blk.cell M0.out 12
  have d13 : W.cell? ⟨w.heap.size, 13, none⟩ = some (.int .u32 m.mask) := Blk.cell M0.out 13
  have d14 : W.cell? ⟨w.heap.size, 14, none⟩ = some (.int .u32 m.router) := Blk.cell M0.out 14
  have d15 : W.cell? ⟨w.heap.size, 15, none⟩ = some (.int .u32 m.resolver) := Blk.cell M0.out 15
  have c0 : W.cell? ⟨b, 0, none⟩ = some (.int .u8 mac.a) := Blk.cell hb.out 0
  have c1 : W.cell? ⟨b, 1, none⟩ = some (.int .u8 mac.b) := Blk.cell hb.out 1
  have c2 : W.cell? ⟨b, 2, none⟩ = some (.int .u8 mac.c) := Blk.cell hb.out 2
  have c3 : W.cell? ⟨b, 3, none⟩ = some (.int .u8 mac.d) := Blk.cell hb.out 3
  have c4 : W.cell? ⟨b, 4, none⟩ = some (.int .u8 mac.e) := Blk.cell hb.out 4
  have c5 : W.cell? ⟨b, 5, none⟩ = some (.int .u8 mac.f) := Blk.cell hb.out 5
  have c6 : W.cell? ⟨b, 6, none⟩ = some (.int .i64 s.st) := Blk.cell hb.out 6
  have c7 : W.cell? ⟨b, 7, none⟩ = some (.int .u32 s.id) := Blk.cell hb.out 7
  have c12 : W.cell? ⟨b, 12, none⟩ = some (.int .u32 s.offer.yours) := Blk.cell hb.out 12
  have c20 : W.cell? ⟨b, 20, none⟩ = some (.int .u32 s.offer.server) := Blk.cell hb.out 20
  have c28 : W.cell? ⟨b, 28, none⟩ = some (.int .u32 s.lease.yours) := Blk.cell hb.out 28
  have c36 : W.cell? ⟨b, 36, none⟩ = some (.int .u32 s.lease.server) := Blk.cell hb.out 36
  go_quiet (fail)
  go_wp2
  go_quiet (fail)
  go_wp2
  refine over_draws (F := fun W => Code.wp _ _ _ _ W) (fun W0 hW0 => ?_)
  have e0 : W0.cell? ⟨w.heap.size, 0, none⟩ = some (.int .i64 m.op) := by rw [hW0]; exact d0
  have e1 : W0.cell? ⟨w.heap.size, 1, none⟩ = some (.int .u32 m.id) := by rw [hW0]; exact d1
  have e2 : W0.cell? ⟨w.heap.size, 2, none⟩ = some (.int .u32 m.yours) := by rw [hW0]; exact d2
  have e3 : W0.cell? ⟨w.heap.size, 3, none⟩ = some (.int .u8 m.cl.a) := by rw [hW0]; exact d3
  have e4 : W0.cell? ⟨w.heap.size, 4, none⟩ = some (.int .u8 m.cl.b) := by rw [hW0]; exact d4
  have e5 : W0.cell? ⟨w.heap.size, 5, none⟩ = some (.int .u8 m.cl.c) := by rw [hW0]; exact d5
  have e6 : W0.cell? ⟨w.heap.size, 6, none⟩ = some (.int .u8 m.cl.d) := by rw [hW0]; exact d6
  have e7 : W0.cell? ⟨w.heap.size, 7, none⟩ = some (.int .u8 m.cl.e) := by rw [hW0]; exact d7
  have e8 : W0.cell? ⟨w.heap.size, 8, none⟩ = some (.int .u8 m.cl.f) := by rw [hW0]; exact d8
  have e9 : W0.cell? ⟨w.heap.size, 9, none⟩ = some (.int .i64 m.ty) := by rw [hW0]; exact d9
  have e10 : W0.cell? ⟨w.heap.size, 10, none⟩ = some (.int .u32 m.server) := by rw [hW0]; exact d10
  have e11 : W0.cell? ⟨w.heap.size, 11, none⟩ = some (.int .u32 m.asked) := by rw [hW0]; exact d11
  have e12 : W0.cell? ⟨w.heap.size, 12, none⟩ = some (.int .i64 m.time) := by rw [hW0]; exact d12
  have e13 : W0.cell? ⟨w.heap.size, 13, none⟩ = some (.int .u32 m.mask) := by rw [hW0]; exact d13
  have e14 : W0.cell? ⟨w.heap.size, 14, none⟩ = some (.int .u32 m.router) := by rw [hW0]; exact d14
  have e15 : W0.cell? ⟨w.heap.size, 15, none⟩ = some (.int .u32 m.resolver) := by rw [hW0]; exact d15
  have es : W0.cell? ⟨b, 20, none⟩ = some (.int .u32 s.offer.server) := by rw [hW0]; exact c20
  have hI0 : IsC W0 b mac s := by rw [hW0]; exact hb.out
  have hG0 : w.grownBy W0 (some b) := by rw [hW0]; exact (by repeat' (first | exact g0.out | refine only_drewN ?_ _))
  clear hW0 d0 d1 d2 d3 d4 d5 d6 d7 d8 d9 d10 d11 d12 d13 d14 d15 c0 c1 c2 c3 c4 c5 c6 c7 c12 c20 c28 c36 hb M0 g0
  have hx : ∀ (a : Addr) (n : Nat), ({ W0 with drawn := n } : World).cell? a = W0.cell? a := fun _ _ => rfl
  go_still_tail 8, (by kernel_rfl)
  clear hx
  change wpList _ _ _ _ _ (World.drew _)
  generalize hW : World.drew _ = V
  have hI : IsC V b mac s := by rw [← hW]; exact hI0
  have hG : w.grownBy V (some b) := by rw [← hW]; exact only_drew hG0
  clear hW
  go_wp2_with fail
  refine (bindsC b mac s m s.offer.server now _ hI hs h0 h1).mono ?_
  rintro e w1 ⟨rfl, hC, hg⟩
  go_wp2
  go_ret
  exact ⟨_, rfl, rfl, hC, only_trans hG hg⟩
set_option maxRecDepth 100000 in
set_option maxHeartbeats 3200000 in
theorem hear_4t (b : Nat) (mac : M6) (s : St) (m : Ls) (now draw : Int) (w : World) (h : IsC w b mac s) (hs : s.ok) (h0 : 0 ≤ now) (h1 : now ≤ 1152921504606846976)
    (a1 : m.op = 2) (a2 : m.id = s.id) (a3 : (m.cl.l != mac.l) = false) (e1 : 3 < s.st) (f1 : m.ty ≠ 5) (f2 : m.ty ≠ 6) :
    Calls Try.prog 12 #[.pointer (some ⟨b, 0, none⟩), .agg m.cs.toArray, .int .i64 now, .int .i64 draw] w fun e w' => Does w w' b mac s none e := by
  have M0 : Hid (Blk (w.alloc (.cells #[.int .i64 m.op, .int .u32 m.id, .int .u32 m.yours, .int .u8 m.cl.a, .int .u8 m.cl.b, .int .u8 m.cl.c, .int .u8 m.cl.d, .int .u8 m.cl.e, .int .u8 m.cl.f, .int .i64 m.ty, .int .u32 m.server, .int .u32 m.asked, .int .i64 m.time, .int .u32 m.mask, .int .u32 m.router, .int .u32 m.resolver] 27)) w.heap.size 27 m.cs.toArray) := Blk.new _ _ _
  have hb := Lib.hid (h.nx (al (rf w) (.cells #[.int .i64 m.op, .int .u32 m.id, .int .u32 m.yours, .int .u8 m.cl.a, .int .u8 m.cl.b, .int .u8 m.cl.c, .int .u8 m.cl.d, .int .u8 m.cl.e, .int .u8 m.cl.f, .int .i64 m.ty, .int .u32 m.server, .int .u32 m.asked, .int .i64 m.time, .int .u32 m.mask, .int .u32 m.router, .int .u32 m.resolver] 27)))
  have g0 : Hid (w.grownBy (w.alloc (.cells #[.int .i64 m.op, .int .u32 m.id, .int .u32 m.yours, .int .u8 m.cl.a, .int .u8 m.cl.b, .int .u8 m.cl.c, .int .u8 m.cl.d, .int .u8 m.cl.e, .int .u8 m.cl.f, .int .i64 m.ty, .int .u32 m.server, .int .u32 m.asked, .int .i64 m.time, .int .u32 m.mask, .int .u32 m.router, .int .u32 m.resolver] 27)) (some b)) := only_alloc (World.grownBy.refl _ _) _
  have hz : Hid (b < w.heap.size) := Blk.lt h
  have q1 : ((m.op : Int) != 2) = false := by rw [bne_eq_false_iff_eq]; exact a1
  have q2 : ((m.id : Int) != s.id) = false := by rw [bne_eq_false_iff_eq]; exact a2
  have q3 := neq_m6 m.cl mac false a3
  clear a1 a2 a3
  have p1 : ((s.st : Int) == 1) = false := by rw [beq_eq_false_iff_ne]; exact (by omega)
  have p2 : ((s.st : Int) == 2) = false := by rw [beq_eq_false_iff_ne]; exact (by omega)
  have p3 : decide ((3 : Int) < s.st) = true := by simpa using e1
  have r1 : ((m.ty : Int) == 5) = false := by rw [beq_eq_false_iff_ne]; exact f1
  have r2 : ((m.ty : Int) == 6) = false := by rw [beq_eq_false_iff_ne]; exact f2
  clear f1 f2
  simp only [Ls.cs]
  go_enter Try.func12, Try.ntmps12
  go_wp2
  generalize w.alloc (.cells #[.int .i64 m.op, .int .u32 m.id, .int .u32 m.yours, .int .u8 m.cl.a, .int .u8 m.cl.b, .int .u8 m.cl.c, .int .u8 m.cl.d, .int .u8 m.cl.e, .int .u8 m.cl.f, .int .i64 m.ty, .int .u32 m.server, .int .u32 m.asked, .int .i64 m.time, .int .u32 m.mask, .int .u32 m.router, .int .u32 m.resolver] 27) = W at M0 hb g0 ⊢
  have d0 : W.cell? ⟨w.heap.size, 0, none⟩ = some (.int .i64 m.op) := Blk.cell M0.out 0
  have d1 : W.cell? ⟨w.heap.size, 1, none⟩ = some (.int .u32 m.id) := Blk.cell M0.out 1
  have d2 : W.cell? ⟨w.heap.size, 2, none⟩ = some (.int .u32 m.yours) := Blk.cell M0.out 2
  have d3 : W.cell? ⟨w.heap.size, 3, none⟩ = some (.int .u8 m.cl.a) := Blk.cell M0.out 3
  have d4 : W.cell? ⟨w.heap.size, 4, none⟩ = some (.int .u8 m.cl.b) := Blk.cell M0.out 4
  have d5 : W.cell? ⟨w.heap.size, 5, none⟩ = some (.int .u8 m.cl.c) := Blk.cell M0.out 5
  have d6 : W.cell? ⟨w.heap.size, 6, none⟩ = some (.int .u8 m.cl.d) := Blk.cell M0.out 6
  have d7 : W.cell? ⟨w.heap.size, 7, none⟩ = some (.int .u8 m.cl.e) := Blk.cell M0.out 7
  have d8 : W.cell? ⟨w.heap.size, 8, none⟩ = some (.int .u8 m.cl.f) := Blk.cell M0.out 8
  have d9 : W.cell? ⟨w.heap.size, 9, none⟩ = some (.int .i64 m.ty) := Blk.cell M0.out 9
  have d10 : W.cell? ⟨w.heap.size, 10, none⟩ = some (.int .u32 m.server) := Blk.cell M0.out 10
  have d11 : W.cell? ⟨w.heap.size, 11, none⟩ = some (.int .u32 m.asked) := Blk.cell M0.out 11
  have d12 : W.cell? ⟨w.heap.size, 12, none⟩ = some (.int .i64 m.time) := Blk.cell M0.out 12
  have d13 : W.cell? ⟨w.heap.size, 13, none⟩ = some (.int .u32 m.mask) := Blk.cell M0.out 13
  have d14 : W.cell? ⟨w.heap.size, 14, none⟩ = some (.int .u32 m.router) := Blk.cell M0.out 14
  have d15 : W.cell? ⟨w.heap.size, 15, none⟩ = some (.int .u32 m.resolver) := Blk.cell M0.out 15
  have c0 : W.cell? ⟨b, 0, none⟩ = some (.int .u8 mac.a) := Blk.cell hb.out 0
  have c1 : W.cell? ⟨b, 1, none⟩ = some (.int .u8 mac.b) := Blk.cell hb.out 1
  have c2 : W.cell? ⟨b, 2, none⟩ = some (.int .u8 mac.c) := Blk.cell hb.out 2
  have c3 : W.cell? ⟨b, 3, none⟩ = some (.int .u8 mac.d) := Blk.cell hb.out 3
  have c4 : W.cell? ⟨b, 4, none⟩ = some (.int .u8 mac.e) := Blk.cell hb.out 4
  have c5 : W.cell? ⟨b, 5, none⟩ = some (.int .u8 mac.f) := Blk.cell hb.out 5
  have c6 : W.cell? ⟨b, 6, none⟩ = some (.int .i64 s.st) := Blk.cell hb.out 6
  have c7 : W.cell? ⟨b, 7, none⟩ = some (.int .u32 s.id) := Blk.cell hb.out 7
  have c12 : W.cell? ⟨b, 12, none⟩ = some (.int .u32 s.offer.yours) := Blk.cell hb.out 12
  have c20 : W.cell? ⟨b, 20, none⟩ = some (.int .u32 s.offer.server) := Blk.cell hb.out 20
  have c28 : W.cell? ⟨b, 28, none⟩ = some (.int .u32 s.lease.yours) := Blk.cell hb.out 28
  have c36 : W.cell? ⟨b, 36, none⟩ = some (.int .u32 s.lease.server) := Blk.cell hb.out 36
  go_quiet (fail)
  go_wp2
  go_quiet (fail)
  go_wp2
  go_quiet (fail)
  go_wp2
  go_ret
  exact ⟨_, rfl, rfl, (by exact hb.out), (by repeat' (first | exact g0.out | refine only_drewN ?_ _))⟩
set_option maxRecDepth 100000 in
set_option maxHeartbeats 3200000 in
theorem hear_4y (b : Nat) (mac : M6) (s : St) (m : Ls) (now draw : Int) (w : World) (h : IsC w b mac s) (hs : s.ok) (h0 : 0 ≤ now) (h1 : now ≤ 1152921504606846976)
    (a1 : m.op = 2) (a2 : m.id = s.id) (a3 : (m.cl.l != mac.l) = false) (e1 : 3 < s.st) (f1 : m.ty = 5) (f2 : m.yours ≠ s.lease.yours) :
    Calls Try.prog 12 #[.pointer (some ⟨b, 0, none⟩), .agg m.cs.toArray, .int .i64 now, .int .i64 draw] w fun e w' => Does w w' b mac s none e := by
  have M0 : Hid (Blk (w.alloc (.cells #[.int .i64 m.op, .int .u32 m.id, .int .u32 m.yours, .int .u8 m.cl.a, .int .u8 m.cl.b, .int .u8 m.cl.c, .int .u8 m.cl.d, .int .u8 m.cl.e, .int .u8 m.cl.f, .int .i64 m.ty, .int .u32 m.server, .int .u32 m.asked, .int .i64 m.time, .int .u32 m.mask, .int .u32 m.router, .int .u32 m.resolver] 27)) w.heap.size 27 m.cs.toArray) := Blk.new _ _ _
  have hb := Lib.hid (h.nx (al (rf w) (.cells #[.int .i64 m.op, .int .u32 m.id, .int .u32 m.yours, .int .u8 m.cl.a, .int .u8 m.cl.b, .int .u8 m.cl.c, .int .u8 m.cl.d, .int .u8 m.cl.e, .int .u8 m.cl.f, .int .i64 m.ty, .int .u32 m.server, .int .u32 m.asked, .int .i64 m.time, .int .u32 m.mask, .int .u32 m.router, .int .u32 m.resolver] 27)))
  have g0 : Hid (w.grownBy (w.alloc (.cells #[.int .i64 m.op, .int .u32 m.id, .int .u32 m.yours, .int .u8 m.cl.a, .int .u8 m.cl.b, .int .u8 m.cl.c, .int .u8 m.cl.d, .int .u8 m.cl.e, .int .u8 m.cl.f, .int .i64 m.ty, .int .u32 m.server, .int .u32 m.asked, .int .i64 m.time, .int .u32 m.mask, .int .u32 m.router, .int .u32 m.resolver] 27)) (some b)) := only_alloc (World.grownBy.refl _ _) _
  have hz : Hid (b < w.heap.size) := Blk.lt h
  have q1 : ((m.op : Int) != 2) = false := by rw [bne_eq_false_iff_eq]; exact a1
  have q2 : ((m.id : Int) != s.id) = false := by rw [bne_eq_false_iff_eq]; exact a2
  have q3 := neq_m6 m.cl mac false a3
  clear a1 a2 a3
  have p1 : ((s.st : Int) == 1) = false := by rw [beq_eq_false_iff_ne]; exact (by omega)
  have p2 : ((s.st : Int) == 2) = false := by rw [beq_eq_false_iff_ne]; exact (by omega)
  have p3 : decide ((3 : Int) < s.st) = true := by simpa using e1
  have r1 : ((m.ty : Int) == 5) = true := by rw [beq_iff_eq]; exact f1
  have r2 : ((m.ty : Int) == 6) = false := by rw [beq_eq_false_iff_ne]; exact (by omega)
  have r3 : ((m.yours : Int) == s.lease.yours) = false := by rw [beq_eq_false_iff_ne]; exact f2
  clear f1 f2
  simp only [Ls.cs]
  go_enter Try.func12, Try.ntmps12
  go_wp2
  generalize w.alloc (.cells #[.int .i64 m.op, .int .u32 m.id, .int .u32 m.yours, .int .u8 m.cl.a, .int .u8 m.cl.b, .int .u8 m.cl.c, .int .u8 m.cl.d, .int .u8 m.cl.e, .int .u8 m.cl.f, .int .i64 m.ty, .int .u32 m.server, .int .u32 m.asked, .int .i64 m.time, .int .u32 m.mask, .int .u32 m.router, .int .u32 m.resolver] 27) = W at M0 hb g0 ⊢
  have d0 : W.cell? ⟨w.heap.size, 0, none⟩ = some (.int .i64 m.op) := Blk.cell M0.out 0
  have d1 : W.cell? ⟨w.heap.size, 1, none⟩ = some (.int .u32 m.id) := Blk.cell M0.out 1
  have d2 : W.cell? ⟨w.heap.size, 2, none⟩ = some (.int .u32 m.yours) := Blk.cell M0.out 2
  have d3 : W.cell? ⟨w.heap.size, 3, none⟩ = some (.int .u8 m.cl.a) := Blk.cell M0.out 3
  have d4 : W.cell? ⟨w.heap.size, 4, none⟩ = some (.int .u8 m.cl.b) := Blk.cell M0.out 4
  have d5 : W.cell? ⟨w.heap.size, 5, none⟩ = some (.int .u8 m.cl.c) := Blk.cell M0.out 5
  have d6 : W.cell? ⟨w.heap.size, 6, none⟩ = some (.int .u8 m.cl.d) := Blk.cell M0.out 6
  have d7 : W.cell? ⟨w.heap.size, 7, none⟩ = some (.int .u8 m.cl.e) := Blk.cell M0.out 7
  have d8 : W.cell? ⟨w.heap.size, 8, none⟩ = some (.int .u8 m.cl.f) := Blk.cell M0.out 8
  have d9 : W.cell? ⟨w.heap.size, 9, none⟩ = some (.int .i64 m.ty) := Blk.cell M0.out 9
  have d10 : W.cell? ⟨w.heap.size, 10, none⟩ = some (.int .u32 m.server) := Blk.cell M0.out 10
  have d11 : W.cell? ⟨w.heap.size, 11, none⟩ = some (.int .u32 m.asked) := Blk.cell M0.out 11
  have d12 : W.cell? ⟨w.heap.size, 12, none⟩ = some (.int .i64 m.time) := Blk.cell M0.out 12
  have d13 : W.cell? ⟨w.heap.size, 13, none⟩ = some (.int .u32 m.mask) := Blk.cell M0.out 13
  have d14 : W.cell? ⟨w.heap.size, 14, none⟩ = some (.int .u32 m.router) := Blk.cell M0.out 14
  have d15 : W.cell? ⟨w.heap.size, 15, none⟩ = some (.int .u32 m.resolver) := Blk.cell M0.out 15
  have c0 : W.cell? ⟨b, 0, none⟩ = some (.int .u8 mac.a) := Blk.cell hb.out 0
  have c1 : W.cell? ⟨b, 1, none⟩ = some (.int .u8 mac.b) := Blk.cell hb.out 1
  have c2 : W.cell? ⟨b, 2, none⟩ = some (.int .u8 mac.c) := Blk.cell hb.out 2
  have c3 : W.cell? ⟨b, 3, none⟩ = some (.int .u8 mac.d) := Blk.cell hb.out 3
  have c4 : W.cell? ⟨b, 4, none⟩ = some (.int .u8 mac.e) := Blk.cell hb.out 4
  have c5 : W.cell? ⟨b, 5, none⟩ = some (.int .u8 mac.f) := Blk.cell hb.out 5
  have c6 : W.cell? ⟨b, 6, none⟩ = some (.int .i64 s.st) := Blk.cell hb.out 6
  have c7 : W.cell? ⟨b, 7, none⟩ = some (.int .u32 s.id) := Blk.cell hb.out 7
  have c12 : W.cell? ⟨b, 12, none⟩ = some (.int .u32 s.offer.yours) := Blk.cell hb.out 12
  have c20 : W.cell? ⟨b, 20, none⟩ = some (.int .u32 s.offer.server) := Blk.cell hb.out 20
  have c28 : W.cell? ⟨b, 28, none⟩ = some (.int .u32 s.lease.yours) := Blk.cell hb.out 28
  have c36 : W.cell? ⟨b, 36, none⟩ = some (.int .u32 s.lease.server) := Blk.cell hb.out 36
  go_quiet (fail)
  go_wp2
  go_quiet (fail)
  go_wp2
  go_quiet (fail)
  go_wp2
  go_ret
  exact ⟨_, rfl, rfl, (by exact hb.out), (by repeat' (first | exact g0.out | refine only_drewN ?_ _))⟩
set_option maxRecDepth 100000 in
set_option maxHeartbeats 3200000 in
theorem hear_4r (b : Nat) (mac : M6) (s : St) (m : Ls) (now draw : Int) (w : World) (h : IsC w b mac s) (hs : s.ok) (h0 : 0 ≤ now) (h1 : now ≤ 1152921504606846976)
    (a1 : m.op = 2) (a2 : m.id = s.id) (a3 : (m.cl.l != mac.l) = false) (e1 : 3 < s.st) (f1 : m.ty = 6) :
    Calls Try.prog 12 #[.pointer (some ⟨b, 0, none⟩), .agg m.cs.toArray, .int .i64 now, .int .i64 draw] w fun e w' => Does w w' b mac (beginS s now draw) (some (sameM mac (beginS s now draw))) e := by
  have M0 : Hid (Blk (w.alloc (.cells #[.int .i64 m.op, .int .u32 m.id, .int .u32 m.yours, .int .u8 m.cl.a, .int .u8 m.cl.b, .int .u8 m.cl.c, .int .u8 m.cl.d, .int .u8 m.cl.e, .int .u8 m.cl.f, .int .i64 m.ty, .int .u32 m.server, .int .u32 m.asked, .int .i64 m.time, .int .u32 m.mask, .int .u32 m.router, .int .u32 m.resolver] 27)) w.heap.size 27 m.cs.toArray) := Blk.new _ _ _
  have hb := Lib.hid (h.nx (al (rf w) (.cells #[.int .i64 m.op, .int .u32 m.id, .int .u32 m.yours, .int .u8 m.cl.a, .int .u8 m.cl.b, .int .u8 m.cl.c, .int .u8 m.cl.d, .int .u8 m.cl.e, .int .u8 m.cl.f, .int .i64 m.ty, .int .u32 m.server, .int .u32 m.asked, .int .i64 m.time, .int .u32 m.mask, .int .u32 m.router, .int .u32 m.resolver] 27)))
  have g0 : Hid (w.grownBy (w.alloc (.cells #[.int .i64 m.op, .int .u32 m.id, .int .u32 m.yours, .int .u8 m.cl.a, .int .u8 m.cl.b, .int .u8 m.cl.c, .int .u8 m.cl.d, .int .u8 m.cl.e, .int .u8 m.cl.f, .int .i64 m.ty, .int .u32 m.server, .int .u32 m.asked, .int .i64 m.time, .int .u32 m.mask, .int .u32 m.router, .int .u32 m.resolver] 27)) (some b)) := only_alloc (World.grownBy.refl _ _) _
  have hz : Hid (b < w.heap.size) := Blk.lt h
  have q1 : ((m.op : Int) != 2) = false := by rw [bne_eq_false_iff_eq]; exact a1
  have q2 : ((m.id : Int) != s.id) = false := by rw [bne_eq_false_iff_eq]; exact a2
  have q3 := neq_m6 m.cl mac false a3
  clear a1 a2 a3
  have p1 : ((s.st : Int) == 1) = false := by rw [beq_eq_false_iff_ne]; exact (by omega)
  have p2 : ((s.st : Int) == 2) = false := by rw [beq_eq_false_iff_ne]; exact (by omega)
  have p3 : decide ((3 : Int) < s.st) = true := by simpa using e1
  have r1 : ((m.ty : Int) == 5) = false := by rw [beq_eq_false_iff_ne]; exact (by omega)
  have r2 : ((m.ty : Int) == 6) = true := by rw [beq_iff_eq]; exact f1
  clear f1
  simp only [Ls.cs]
  go_enter Try.func12, Try.ntmps12
  go_wp2
  generalize w.alloc (.cells #[.int .i64 m.op, .int .u32 m.id, .int .u32 m.yours, .int .u8 m.cl.a, .int .u8 m.cl.b, .int .u8 m.cl.c, .int .u8 m.cl.d, .int .u8 m.cl.e, .int .u8 m.cl.f, .int .i64 m.ty, .int .u32 m.server, .int .u32 m.asked, .int .i64 m.time, .int .u32 m.mask, .int .u32 m.router, .int .u32 m.resolver] 27) = W at M0 hb g0 ⊢
  have d0 : W.cell? ⟨w.heap.size, 0, none⟩ = some (.int .i64 m.op) := Blk.cell M0.out 0
  have d1 : W.cell? ⟨w.heap.size, 1, none⟩ = some (.int .u32 m.id) := Blk.cell M0.out 1
  have d2 : W.cell? ⟨w.heap.size, 2, none⟩ = some (.int .u32 m.yours) := Blk.cell M0.out 2
  have d3 : W.cell? ⟨w.heap.size, 3, none⟩ = some (.int .u8 m.cl.a) := Blk.cell M0.out 3
  have d4 : W.cell? ⟨w.heap.size, 4, none⟩ = some (.int .u8 m.cl.b) := Blk.cell M0.out 4
  have d5 : W.cell? ⟨w.heap.size, 5, none⟩ = some (.int .u8 m.cl.c) := Blk.cell M0.out 5
  have d6 : W.cell? ⟨w.heap.size, 6, none⟩ = some (.int .u8 m.cl.d) := Blk.cell M0.out 6
  have d7 : W.cell? ⟨w.heap.size, 7, none⟩ = some (.int .u8 m.cl.e) := Blk.cell M0.out 7
  have d8 : W.cell? ⟨w.heap.size, 8, none⟩ = some (.int .u8 m.cl.f) := Blk.cell M0.out 8
  have d9 : W.cell? ⟨w.heap.size, 9, none⟩ = some (.int .i64 m.ty) := Blk.cell M0.out 9
  have d10 : W.cell? ⟨w.heap.size, 10, none⟩ = some (.int .u32 m.server) := Blk.cell M0.out 10
  have d11 : W.cell? ⟨w.heap.size, 11, none⟩ = some (.int .u32 m.asked) := Blk.cell M0.out 11
  have d12 : W.cell? ⟨w.heap.size, 12, none⟩ = some (.int .i64 m.time) := Blk.cell M0.out 12
  have d13 : W.cell? ⟨w.heap.size, 13, none⟩ = some (.int .u32 m.mask) := Blk.cell M0.out 13
  have d14 : W.cell? ⟨w.heap.size, 14, none⟩ = some (.int .u32 m.router) := Blk.cell M0.out 14
  have d15 : W.cell? ⟨w.heap.size, 15, none⟩ = some (.int .u32 m.resolver) := Blk.cell M0.out 15
  have c0 : W.cell? ⟨b, 0, none⟩ = some (.int .u8 mac.a) := Blk.cell hb.out 0
  have c1 : W.cell? ⟨b, 1, none⟩ = some (.int .u8 mac.b) := Blk.cell hb.out 1
  have c2 : W.cell? ⟨b, 2, none⟩ = some (.int .u8 mac.c) := Blk.cell hb.out 2
  have c3 : W.cell? ⟨b, 3, none⟩ = some (.int .u8 mac.d) := Blk.cell hb.out 3
  have c4 : W.cell? ⟨b, 4, none⟩ = some (.int .u8 mac.e) := Blk.cell hb.out 4
  have c5 : W.cell? ⟨b, 5, none⟩ = some (.int .u8 mac.f) := Blk.cell hb.out 5
  have c6 : W.cell? ⟨b, 6, none⟩ = some (.int .i64 s.st) := Blk.cell hb.out 6
  have c7 : W.cell? ⟨b, 7, none⟩ = some (.int .u32 s.id) := Blk.cell hb.out 7
  have c12 : W.cell? ⟨b, 12, none⟩ = some (.int .u32 s.offer.yours) := Blk.cell hb.out 12
  have c20 : W.cell? ⟨b, 20, none⟩ = some (.int .u32 s.offer.server) := Blk.cell hb.out 20
  have c28 : W.cell? ⟨b, 28, none⟩ = some (.int .u32 s.lease.yours) := Blk.cell hb.out 28
  have c36 : W.cell? ⟨b, 36, none⟩ = some (.int .u32 s.lease.server) := Blk.cell hb.out 36
  go_quiet (fail)
  go_wp2
  go_quiet (fail)
  go_wp2
  go_quiet (fail)
  go_wp2_with fail
  refine (beginsC b mac s now draw _ (by exact hb.out) h0 h1).mono ?_
  rintro e w1 ⟨v, rfl, ho, hC, hg⟩
  go_wp2
  go_ret
  exact ⟨v, rfl, ho.more (by exact g0.out.size), hC, only_trans (by repeat' (first | exact g0.out | refine only_drewN ?_ _)) hg⟩
set_option maxRecDepth 100000 in
set_option maxHeartbeats 3200000 in
theorem hear_4b (b : Nat) (mac : M6) (s : St) (m : Ls) (now draw : Int) (w : World) (h : IsC w b mac s) (hs : s.ok) (h0 : 0 ≤ now) (h1 : now ≤ 1152921504606846976)
    (a1 : m.op = 2) (a2 : m.id = s.id) (a3 : (m.cl.l != mac.l) = false) (e1 : 3 < s.st) (f1 : m.ty = 5) (f2 : m.yours = s.lease.yours) :
    Calls Try.prog 12 #[.pointer (some ⟨b, 0, none⟩), .agg m.cs.toArray, .int .i64 now, .int .i64 draw] w fun e w' => Does w w' b mac (bindS s m s.lease.server now) none e := by
  have M0 : Hid (Blk (w.alloc (.cells #[.int .i64 m.op, .int .u32 m.id, .int .u32 m.yours, .int .u8 m.cl.a, .int .u8 m.cl.b, .int .u8 m.cl.c, .int .u8 m.cl.d, .int .u8 m.cl.e, .int .u8 m.cl.f, .int .i64 m.ty, .int .u32 m.server, .int .u32 m.asked, .int .i64 m.time, .int .u32 m.mask, .int .u32 m.router, .int .u32 m.resolver] 27)) w.heap.size 27 m.cs.toArray) := Blk.new _ _ _
  have hb := Lib.hid (h.nx (al (rf w) (.cells #[.int .i64 m.op, .int .u32 m.id, .int .u32 m.yours, .int .u8 m.cl.a, .int .u8 m.cl.b, .int .u8 m.cl.c, .int .u8 m.cl.d, .int .u8 m.cl.e, .int .u8 m.cl.f, .int .i64 m.ty, .int .u32 m.server, .int .u32 m.asked, .int .i64 m.time, .int .u32 m.mask, .int .u32 m.router, .int .u32 m.resolver] 27)))
  have g0 : Hid (w.grownBy (w.alloc (.cells #[.int .i64 m.op, .int .u32 m.id, .int .u32 m.yours, .int .u8 m.cl.a, .int .u8 m.cl.b, .int .u8 m.cl.c, .int .u8 m.cl.d, .int .u8 m.cl.e, .int .u8 m.cl.f, .int .i64 m.ty, .int .u32 m.server, .int .u32 m.asked, .int .i64 m.time, .int .u32 m.mask, .int .u32 m.router, .int .u32 m.resolver] 27)) (some b)) := only_alloc (World.grownBy.refl _ _) _
  have hz : Hid (b < w.heap.size) := Blk.lt h
  have q1 : ((m.op : Int) != 2) = false := by rw [bne_eq_false_iff_eq]; exact a1
  have q2 : ((m.id : Int) != s.id) = false := by rw [bne_eq_false_iff_eq]; exact a2
  have q3 := neq_m6 m.cl mac false a3
  clear a1 a2 a3
  have p1 : ((s.st : Int) == 1) = false := by rw [beq_eq_false_iff_ne]; exact (by omega)
  have p2 : ((s.st : Int) == 2) = false := by rw [beq_eq_false_iff_ne]; exact (by omega)
  have p3 : decide ((3 : Int) < s.st) = true := by simpa using e1
  have r1 : ((m.ty : Int) == 5) = true := by rw [beq_iff_eq]; exact f1
  have r3 : ((m.yours : Int) == s.lease.yours) = true := by rw [beq_iff_eq]; exact f2
  clear f1 f2
  simp only [Ls.cs]
  go_enter Try.func12, Try.ntmps12
  go_wp2
  generalize w.alloc (.cells #[.int .i64 m.op, .int .u32 m.id, .int .u32 m.yours, .int .u8 m.cl.a, .int .u8 m.cl.b, .int .u8 m.cl.c, .int .u8 m.cl.d, .int .u8 m.cl.e, .int .u8 m.cl.f, .int .i64 m.ty, .int .u32 m.server, .int .u32 m.asked, .int .i64 m.time, .int .u32 m.mask, .int .u32 m.router, .int .u32 m.resolver] 27) = W at M0 hb g0 ⊢
  have d0 : W.cell? ⟨w.heap.size, 0, none⟩ = some (.int .i64 m.op) := Blk.cell M0.out 0
  have d1 : W.cell? ⟨w.heap.size, 1, none⟩ = some (.int .u32 m.id) := Blk.cell M0.out 1
  have d2 : W.cell? ⟨w.heap.size, 2, none⟩ = some (.int .u32 m.yours) := Blk.cell M0.out 2
  have d3 : W.cell? ⟨w.heap.size, 3, none⟩ = some (.int .u8 m.cl.a) := Blk.cell M0.out 3
  have d4 : W.cell? ⟨w.heap.size, 4, none⟩ = some (.int .u8 m.cl.b) := Blk.cell M0.out 4
  have d5 : W.cell? ⟨w.heap.size, 5, none⟩ = some (.int .u8 m.cl.c) := Blk.cell M0.out 5
  have d6 : W.cell? ⟨w.heap.size, 6, none⟩ = some (.int .u8 m.cl.d) := Blk.cell M0.out 6
  have d7 : W.cell? ⟨w.heap.size, 7, none⟩ = some (.int .u8 m.cl.e) := Blk.cell M0.out 7
  have d8 : W.cell? ⟨w.heap.size, 8, none⟩ = some (.int .u8 m.cl.f) := Blk.cell M0.out 8
  have d9 : W.cell? ⟨w.heap.size, 9, none⟩ = some (.int .i64 m.ty) := Blk.cell M0.out 9
  have d10 : W.cell? ⟨w.heap.size, 10, none⟩ = some (.int .u32 m.server) := Blk.cell M0.out 10
  have d11 : W.cell? ⟨w.heap.size, 11, none⟩ = some (.int .u32 m.asked) := Blk.cell M0.out 11
  have d12 : W.cell? ⟨w.heap.size, 12, none⟩ = some (.int .i64 m.time) := Blk.cell M0.out 12
  have d13 : W.cell? ⟨w.heap.size, 13, none⟩ = some (.int .u32 m.mask) := Blk.cell M0.out 13
  have d14 : W.cell? ⟨w.heap.size, 14, none⟩ = some (.int .u32 m.router) := Blk.cell M0.out 14
  have d15 : W.cell? ⟨w.heap.size, 15, none⟩ = some (.int .u32 m.resolver) := Blk.cell M0.out 15
  have c0 : W.cell? ⟨b, 0, none⟩ = some (.int .u8 mac.a) := Blk.cell hb.out 0
  have c1 : W.cell? ⟨b, 1, none⟩ = some (.int .u8 mac.b) := Blk.cell hb.out 1
  have c2 : W.cell? ⟨b, 2, none⟩ = some (.int .u8 mac.c) := Blk.cell hb.out 2
  have c3 : W.cell? ⟨b, 3, none⟩ = some (.int .u8 mac.d) := Blk.cell hb.out 3
  have c4 : W.cell? ⟨b, 4, none⟩ = some (.int .u8 mac.e) := Blk.cell hb.out 4
  have c5 : W.cell? ⟨b, 5, none⟩ = some (.int .u8 mac.f) := Blk.cell hb.out 5
  have c6 : W.cell? ⟨b, 6, none⟩ = some (.int .i64 s.st) := Blk.cell hb.out 6
  have c7 : W.cell? ⟨b, 7, none⟩ = some (.int .u32 s.id) := Blk.cell hb.out 7
  have c12 : W.cell? ⟨b, 12, none⟩ = some (.int .u32 s.offer.yours) := Blk.cell hb.out 12
  have c20 : W.cell? ⟨b, 20, none⟩ = some (.int .u32 s.offer.server) := Blk.cell hb.out 20
  have c28 : W.cell? ⟨b, 28, none⟩ = some (.int .u32 s.lease.yours) := Blk.cell hb.out 28
  have c36 : W.cell? ⟨b, 36, none⟩ = some (.int .u32 s.lease.server) := Blk.cell hb.out 36
  go_quiet (fail)
  go_wp2
  go_quiet (fail)
  go_wp2
  go_quiet (fail)
  go_wp2
  refine over_draws (F := fun W => Code.wp _ _ _ _ W) (fun W0 hW0 => ?_)
  have e0 : W0.cell? ⟨w.heap.size, 0, none⟩ = some (.int .i64 m.op) := by rw [hW0]; exact d0
  have e1 : W0.cell? ⟨w.heap.size, 1, none⟩ = some (.int .u32 m.id) := by rw [hW0]; exact d1
  have e2 : W0.cell? ⟨w.heap.size, 2, none⟩ = some (.int .u32 m.yours) := by rw [hW0]; exact d2
  have e3 : W0.cell? ⟨w.heap.size, 3, none⟩ = some (.int .u8 m.cl.a) := by rw [hW0]; exact d3
  have e4 : W0.cell? ⟨w.heap.size, 4, none⟩ = some (.int .u8 m.cl.b) := by rw [hW0]; exact d4
  have e5 : W0.cell? ⟨w.heap.size, 5, none⟩ = some (.int .u8 m.cl.c) := by rw [hW0]; exact d5
  have e6 : W0.cell? ⟨w.heap.size, 6, none⟩ = some (.int .u8 m.cl.d) := by rw [hW0]; exact d6
  have e7 : W0.cell? ⟨w.heap.size, 7, none⟩ = some (.int .u8 m.cl.e) := by rw [hW0]; exact d7
  have e8 : W0.cell? ⟨w.heap.size, 8, none⟩ = some (.int .u8 m.cl.f) := by rw [hW0]; exact d8
  have e9 : W0.cell? ⟨w.heap.size, 9, none⟩ = some (.int .i64 m.ty) := by rw [hW0]; exact d9
  have e10 : W0.cell? ⟨w.heap.size, 10, none⟩ = some (.int .u32 m.server) := by rw [hW0]; exact d10
  have e11 : W0.cell? ⟨w.heap.size, 11, none⟩ = some (.int .u32 m.asked) := by rw [hW0]; exact d11
  have e12 : W0.cell? ⟨w.heap.size, 12, none⟩ = some (.int .i64 m.time) := by rw [hW0]; exact d12
  have e13 : W0.cell? ⟨w.heap.size, 13, none⟩ = some (.int .u32 m.mask) := by rw [hW0]; exact d13
  have e14 : W0.cell? ⟨w.heap.size, 14, none⟩ = some (.int .u32 m.router) := by rw [hW0]; exact d14
  have e15 : W0.cell? ⟨w.heap.size, 15, none⟩ = some (.int .u32 m.resolver) := by rw [hW0]; exact d15
  have es : W0.cell? ⟨b, 36, none⟩ = some (.int .u32 s.lease.server) := by rw [hW0]; exact c36
  have hI0 : IsC W0 b mac s := by rw [hW0]; exact hb.out
  have hG0 : w.grownBy W0 (some b) := by rw [hW0]; exact (by repeat' (first | exact g0.out | refine only_drewN ?_ _))
  clear hW0 d0 d1 d2 d3 d4 d5 d6 d7 d8 d9 d10 d11 d12 d13 d14 d15 c0 c1 c2 c3 c4 c5 c6 c7 c12 c20 c28 c36 hb M0 g0
  have hx : ∀ (a : Addr) (n : Nat), ({ W0 with drawn := n } : World).cell? a = W0.cell? a := fun _ _ => rfl
  go_still_tail 8, (by kernel_rfl)
  clear hx
  change wpList _ _ _ _ _ (World.drew _)
  generalize hW : World.drew _ = V
  have hI : IsC V b mac s := by rw [← hW]; exact hI0
  have hG : w.grownBy V (some b) := by rw [← hW]; exact only_drew hG0
  clear hW
  go_wp2_with fail
  refine (bindsC b mac s m s.lease.server now _ hI hs h0 h1).mono ?_
  rintro e w1 ⟨rfl, hC, hg⟩
  go_wp2
  go_ret
  exact ⟨_, rfl, rfl, hC, only_trans hG hg⟩
set_option maxRecDepth 100000 in
set_option maxHeartbeats 3200000 in
theorem hear_1ok (b : Nat) (mac : M6) (s : St) (m : Ls) (now draw : Int) (w : World) (h : IsC w b mac s) (hs : s.ok) (h0 : 0 ≤ now) (h1 : now ≤ 1152921504606846976)
    (a1 : m.op = 2) (a2 : m.id = s.id) (a3 : (m.cl.l != mac.l) = false) (e1 : s.st = 1) (f1 : m.ty = 2) (f2 : m.yours ≠ 0) (f3 : m.server ≠ 0) :
    Calls Try.prog 12 #[.pointer (some ⟨b, 0, none⟩), .agg m.cs.toArray, .int .i64 now, .int .i64 draw] w fun e w' => Does w w' b mac (offerS s m now) (some (sameM mac (offerS s m now))) e := by
  have M0 : Hid (Blk (w.alloc (.cells #[.int .i64 m.op, .int .u32 m.id, .int .u32 m.yours, .int .u8 m.cl.a, .int .u8 m.cl.b, .int .u8 m.cl.c, .int .u8 m.cl.d, .int .u8 m.cl.e, .int .u8 m.cl.f, .int .i64 m.ty, .int .u32 m.server, .int .u32 m.asked, .int .i64 m.time, .int .u32 m.mask, .int .u32 m.router, .int .u32 m.resolver] 27)) w.heap.size 27 m.cs.toArray) := Blk.new _ _ _
  have hb := Lib.hid (h.nx (al (rf w) (.cells #[.int .i64 m.op, .int .u32 m.id, .int .u32 m.yours, .int .u8 m.cl.a, .int .u8 m.cl.b, .int .u8 m.cl.c, .int .u8 m.cl.d, .int .u8 m.cl.e, .int .u8 m.cl.f, .int .i64 m.ty, .int .u32 m.server, .int .u32 m.asked, .int .i64 m.time, .int .u32 m.mask, .int .u32 m.router, .int .u32 m.resolver] 27)))
  have g0 : Hid (w.grownBy (w.alloc (.cells #[.int .i64 m.op, .int .u32 m.id, .int .u32 m.yours, .int .u8 m.cl.a, .int .u8 m.cl.b, .int .u8 m.cl.c, .int .u8 m.cl.d, .int .u8 m.cl.e, .int .u8 m.cl.f, .int .i64 m.ty, .int .u32 m.server, .int .u32 m.asked, .int .i64 m.time, .int .u32 m.mask, .int .u32 m.router, .int .u32 m.resolver] 27)) (some b)) := only_alloc (World.grownBy.refl _ _) _
  have hz : Hid (b < w.heap.size) := Blk.lt h
  have q1 : ((m.op : Int) != 2) = false := by rw [bne_eq_false_iff_eq]; exact a1
  have q2 : ((m.id : Int) != s.id) = false := by rw [bne_eq_false_iff_eq]; exact a2
  have q3 := neq_m6 m.cl mac false a3
  clear a1 a2 a3
  have p1 : ((s.st : Int) == 1) = true := by rw [beq_iff_eq]; exact e1
  have p2 : ((s.st : Int) == 2) = false := by rw [beq_eq_false_iff_ne]; exact (by omega)
  have p3 : decide ((3 : Int) < s.st) = false := by simp; omega
  clear e1
  have r1 : ((m.ty : Int) == 2) = true := by rw [beq_iff_eq]; exact f1
  have r2 : ((m.yours : Int) != 0) = true := by rw [bne_iff_ne]; exact f2
  have r3 : ((m.server : Int) != 0) = true := by rw [bne_iff_ne]; exact f3
  clear f1 f2 f3
  simp only [Ls.cs]
  go_enter Try.func12, Try.ntmps12
  go_wp2
  generalize w.alloc (.cells #[.int .i64 m.op, .int .u32 m.id, .int .u32 m.yours, .int .u8 m.cl.a, .int .u8 m.cl.b, .int .u8 m.cl.c, .int .u8 m.cl.d, .int .u8 m.cl.e, .int .u8 m.cl.f, .int .i64 m.ty, .int .u32 m.server, .int .u32 m.asked, .int .i64 m.time, .int .u32 m.mask, .int .u32 m.router, .int .u32 m.resolver] 27) = W at M0 hb g0 ⊢
  have d0 : W.cell? ⟨w.heap.size, 0, none⟩ = some (.int .i64 m.op) := Blk.cell M0.out 0
  have d1 : W.cell? ⟨w.heap.size, 1, none⟩ = some (.int .u32 m.id) := Blk.cell M0.out 1
  have d2 : W.cell? ⟨w.heap.size, 2, none⟩ = some (.int .u32 m.yours) := Blk.cell M0.out 2
  have d3 : W.cell? ⟨w.heap.size, 3, none⟩ = some (.int .u8 m.cl.a) := Blk.cell M0.out 3
  have d4 : W.cell? ⟨w.heap.size, 4, none⟩ = some (.int .u8 m.cl.b) := Blk.cell M0.out 4
  have d5 : W.cell? ⟨w.heap.size, 5, none⟩ = some (.int .u8 m.cl.c) := Blk.cell M0.out 5
  have d6 : W.cell? ⟨w.heap.size, 6, none⟩ = some (.int .u8 m.cl.d) := Blk.cell M0.out 6
  have d7 : W.cell? ⟨w.heap.size, 7, none⟩ = some (.int .u8 m.cl.e) := Blk.cell M0.out 7
  have d8 : W.cell? ⟨w.heap.size, 8, none⟩ = some (.int .u8 m.cl.f) := Blk.cell M0.out 8
  have d9 : W.cell? ⟨w.heap.size, 9, none⟩ = some (.int .i64 m.ty) := Blk.cell M0.out 9
  have d10 : W.cell? ⟨w.heap.size, 10, none⟩ = some (.int .u32 m.server) := Blk.cell M0.out 10
  have d11 : W.cell? ⟨w.heap.size, 11, none⟩ = some (.int .u32 m.asked) := Blk.cell M0.out 11
  have d12 : W.cell? ⟨w.heap.size, 12, none⟩ = some (.int .i64 m.time) := Blk.cell M0.out 12
  have d13 : W.cell? ⟨w.heap.size, 13, none⟩ = some (.int .u32 m.mask) := Blk.cell M0.out 13
  have d14 : W.cell? ⟨w.heap.size, 14, none⟩ = some (.int .u32 m.router) := Blk.cell M0.out 14
  have d15 : W.cell? ⟨w.heap.size, 15, none⟩ = some (.int .u32 m.resolver) := Blk.cell M0.out 15
  have c0 : W.cell? ⟨b, 0, none⟩ = some (.int .u8 mac.a) := Blk.cell hb.out 0
  have c1 : W.cell? ⟨b, 1, none⟩ = some (.int .u8 mac.b) := Blk.cell hb.out 1
  have c2 : W.cell? ⟨b, 2, none⟩ = some (.int .u8 mac.c) := Blk.cell hb.out 2
  have c3 : W.cell? ⟨b, 3, none⟩ = some (.int .u8 mac.d) := Blk.cell hb.out 3
  have c4 : W.cell? ⟨b, 4, none⟩ = some (.int .u8 mac.e) := Blk.cell hb.out 4
  have c5 : W.cell? ⟨b, 5, none⟩ = some (.int .u8 mac.f) := Blk.cell hb.out 5
  have c6 : W.cell? ⟨b, 6, none⟩ = some (.int .i64 s.st) := Blk.cell hb.out 6
  have c7 : W.cell? ⟨b, 7, none⟩ = some (.int .u32 s.id) := Blk.cell hb.out 7
  have c12 : W.cell? ⟨b, 12, none⟩ = some (.int .u32 s.offer.yours) := Blk.cell hb.out 12
  have c20 : W.cell? ⟨b, 20, none⟩ = some (.int .u32 s.offer.server) := Blk.cell hb.out 20
  have c28 : W.cell? ⟨b, 28, none⟩ = some (.int .u32 s.lease.yours) := Blk.cell hb.out 28
  have c36 : W.cell? ⟨b, 36, none⟩ = some (.int .u32 s.lease.server) := Blk.cell hb.out 36
  go_quiet (fail)
  go_wp2
  refine over_draws (F := fun W => Code.wp _ _ _ _ W) (fun W0 hW0 => ?_)
  have e0 : W0.cell? ⟨w.heap.size, 0, none⟩ = some (.int .i64 m.op) := by rw [hW0]; exact d0
  have e1 : W0.cell? ⟨w.heap.size, 1, none⟩ = some (.int .u32 m.id) := by rw [hW0]; exact d1
  have e2 : W0.cell? ⟨w.heap.size, 2, none⟩ = some (.int .u32 m.yours) := by rw [hW0]; exact d2
  have e3 : W0.cell? ⟨w.heap.size, 3, none⟩ = some (.int .u8 m.cl.a) := by rw [hW0]; exact d3
  have e4 : W0.cell? ⟨w.heap.size, 4, none⟩ = some (.int .u8 m.cl.b) := by rw [hW0]; exact d4
  have e5 : W0.cell? ⟨w.heap.size, 5, none⟩ = some (.int .u8 m.cl.c) := by rw [hW0]; exact d5
  have e6 : W0.cell? ⟨w.heap.size, 6, none⟩ = some (.int .u8 m.cl.d) := by rw [hW0]; exact d6
  have e7 : W0.cell? ⟨w.heap.size, 7, none⟩ = some (.int .u8 m.cl.e) := by rw [hW0]; exact d7
  have e8 : W0.cell? ⟨w.heap.size, 8, none⟩ = some (.int .u8 m.cl.f) := by rw [hW0]; exact d8
  have e9 : W0.cell? ⟨w.heap.size, 9, none⟩ = some (.int .i64 m.ty) := by rw [hW0]; exact d9
  have e10 : W0.cell? ⟨w.heap.size, 10, none⟩ = some (.int .u32 m.server) := by rw [hW0]; exact d10
  have e11 : W0.cell? ⟨w.heap.size, 11, none⟩ = some (.int .u32 m.asked) := by rw [hW0]; exact d11
  have e12 : W0.cell? ⟨w.heap.size, 12, none⟩ = some (.int .i64 m.time) := by rw [hW0]; exact d12
  have e13 : W0.cell? ⟨w.heap.size, 13, none⟩ = some (.int .u32 m.mask) := by rw [hW0]; exact d13
  have e14 : W0.cell? ⟨w.heap.size, 14, none⟩ = some (.int .u32 m.router) := by rw [hW0]; exact d14
  have e15 : W0.cell? ⟨w.heap.size, 15, none⟩ = some (.int .u32 m.resolver) := by rw [hW0]; exact d15
  have hI0 : IsC W0 b mac s := by rw [hW0]; exact hb.out
  have hG0 : w.grownBy W0 (some b) := by rw [hW0]; exact (by repeat' (first | exact g0.out | refine only_drewN ?_ _))
  have o10 : W0.cell? ⟨b, 10, none⟩ = some (.int .i64 s.offer.op) := hI0.cell 10
  have f10 := Blk.frozen hI0 10
  have o11 : W0.cell? ⟨b, 11, none⟩ = some (.int .u32 s.offer.id) := hI0.cell 11
  have f11 := Blk.frozen hI0 11
  have o12 : W0.cell? ⟨b, 12, none⟩ = some (.int .u32 s.offer.yours) := hI0.cell 12
  have f12 := Blk.frozen hI0 12
  have o13 : W0.cell? ⟨b, 13, none⟩ = some (.int .u8 s.offer.cl.a) := hI0.cell 13
  have f13 := Blk.frozen hI0 13
  have o14 : W0.cell? ⟨b, 14, none⟩ = some (.int .u8 s.offer.cl.b) := hI0.cell 14
  have f14 := Blk.frozen hI0 14
  have o15 : W0.cell? ⟨b, 15, none⟩ = some (.int .u8 s.offer.cl.c) := hI0.cell 15
  have f15 := Blk.frozen hI0 15
  have o16 : W0.cell? ⟨b, 16, none⟩ = some (.int .u8 s.offer.cl.d) := hI0.cell 16
  have f16 := Blk.frozen hI0 16
  have o17 : W0.cell? ⟨b, 17, none⟩ = some (.int .u8 s.offer.cl.e) := hI0.cell 17
  have f17 := Blk.frozen hI0 17
  have o18 : W0.cell? ⟨b, 18, none⟩ = some (.int .u8 s.offer.cl.f) := hI0.cell 18
  have f18 := Blk.frozen hI0 18
  have o19 : W0.cell? ⟨b, 19, none⟩ = some (.int .i64 s.offer.ty) := hI0.cell 19
  have f19 := Blk.frozen hI0 19
  have o20 : W0.cell? ⟨b, 20, none⟩ = some (.int .u32 s.offer.server) := hI0.cell 20
  have f20 := Blk.frozen hI0 20
  have o21 : W0.cell? ⟨b, 21, none⟩ = some (.int .u32 s.offer.asked) := hI0.cell 21
  have f21 := Blk.frozen hI0 21
  have o22 : W0.cell? ⟨b, 22, none⟩ = some (.int .i64 s.offer.time) := hI0.cell 22
  have f22 := Blk.frozen hI0 22
  have o23 : W0.cell? ⟨b, 23, none⟩ = some (.int .u32 s.offer.mask) := hI0.cell 23
  have f23 := Blk.frozen hI0 23
  have o24 : W0.cell? ⟨b, 24, none⟩ = some (.int .u32 s.offer.router) := hI0.cell 24
  have f24 := Blk.frozen hI0 24
  have o25 : W0.cell? ⟨b, 25, none⟩ = some (.int .u32 s.offer.resolver) := hI0.cell 25
  have f25 := Blk.frozen hI0 25
  have o6 : W0.cell? ⟨b, 6, none⟩ = some (.int .i64 s.st) := hI0.cell 6
  have f6 := Blk.frozen hI0 6
  have o8 : W0.cell? ⟨b, 8, none⟩ = some (.int .i64 s.next) := hI0.cell 8
  have f8 := Blk.frozen hI0 8
  have o9 : W0.cell? ⟨b, 9, none⟩ = some (.int .i64 s.tried) := hI0.cell 9
  have f9 := Blk.frozen hI0 9
  clear hW0 d0 d1 d2 d3 d4 d5 d6 d7 d8 d9 d10 d11 d12 d13 d14 d15 c0 c1 c2 c3 c4 c5 c6 c7 c12 c20 c28 c36 hb M0 g0
  have hn1 : b ≠ w.heap.size := by have := hz.out; omega
  have hn2 : w.heap.size ≠ b := by have := hz.out; omega
  have HI0 := Lib.hid hI0
  go_region_held3 (fun w' => w'.cell? ⟨w.heap.size, 0, none⟩ = some (.int .i64 m.op) ∧ w'.cell? ⟨w.heap.size, 1, none⟩ = some (.int .u32 m.id) ∧ w'.cell? ⟨w.heap.size, 2, none⟩ = some (.int .u32 m.yours) ∧ w'.cell? ⟨w.heap.size, 3, none⟩ = some (.int .u8 m.cl.a) ∧ w'.cell? ⟨w.heap.size, 4, none⟩ = some (.int .u8 m.cl.b) ∧ w'.cell? ⟨w.heap.size, 5, none⟩ = some (.int .u8 m.cl.c) ∧ w'.cell? ⟨w.heap.size, 6, none⟩ = some (.int .u8 m.cl.d) ∧ w'.cell? ⟨w.heap.size, 7, none⟩ = some (.int .u8 m.cl.e) ∧ w'.cell? ⟨w.heap.size, 8, none⟩ = some (.int .u8 m.cl.f) ∧ w'.cell? ⟨w.heap.size, 9, none⟩ = some (.int .i64 m.ty) ∧ w'.cell? ⟨w.heap.size, 10, none⟩ = some (.int .u32 m.server) ∧ w'.cell? ⟨w.heap.size, 11, none⟩ = some (.int .u32 m.asked) ∧ w'.cell? ⟨w.heap.size, 12, none⟩ = some (.int .i64 m.time) ∧ w'.cell? ⟨w.heap.size, 13, none⟩ = some (.int .u32 m.mask) ∧ w'.cell? ⟨w.heap.size, 14, none⟩ = some (.int .u32 m.router) ∧ w'.cell? ⟨w.heap.size, 15, none⟩ = some (.int .u32 m.resolver)) (go_keep) (first | (go_at_call 33; refine (plus now 40 _ h0 (by omega) (by omega) (by omega)).mono ?_; rintro e w' ⟨rfl, rfl⟩))
  rename_i hHeld
  have H1 : IsC (((((((((((((((((((W0.setCell ⟨b, 6, none⟩ (.int .i64 2)).setCell ⟨b, 10, none⟩ (.int .i64 m.op)).setCell ⟨b, 11, none⟩ (.int .u32 m.id)).setCell ⟨b, 12, none⟩ (.int .u32 m.yours)).setCell ⟨b, 13, none⟩ (.int .u8 m.cl.a)).setCell ⟨b, 14, none⟩ (.int .u8 m.cl.b)).setCell ⟨b, 15, none⟩ (.int .u8 m.cl.c)).setCell ⟨b, 16, none⟩ (.int .u8 m.cl.d)).setCell ⟨b, 17, none⟩ (.int .u8 m.cl.e)).setCell ⟨b, 18, none⟩ (.int .u8 m.cl.f)).setCell ⟨b, 19, none⟩ (.int .i64 m.ty)).setCell ⟨b, 20, none⟩ (.int .u32 m.server)).setCell ⟨b, 21, none⟩ (.int .u32 m.asked)).setCell ⟨b, 22, none⟩ (.int .i64 m.time)).setCell ⟨b, 23, none⟩ (.int .u32 m.mask)).setCell ⟨b, 24, none⟩ (.int .u32 m.router)).setCell ⟨b, 25, none⟩ (.int .u32 m.resolver)).setCell ⟨b, 9, none⟩ (.int .i64 1)).setCell ⟨b, 8, none⟩ (.int .i64 (now + 40))) b mac (offerS s m now) := by
    have H := ((((((((((((((((((hI0.set_ 6 (.int .i64 2)).set_ 10 (.int .i64 m.op)).set_ 11 (.int .u32 m.id)).set_ 12 (.int .u32 m.yours)).set_ 13 (.int .u8 m.cl.a)).set_ 14 (.int .u8 m.cl.b)).set_ 15 (.int .u8 m.cl.c)).set_ 16 (.int .u8 m.cl.d)).set_ 17 (.int .u8 m.cl.e)).set_ 18 (.int .u8 m.cl.f)).set_ 19 (.int .i64 m.ty)).set_ 20 (.int .u32 m.server)).set_ 21 (.int .u32 m.asked)).set_ 22 (.int .i64 m.time)).set_ 23 (.int .u32 m.mask)).set_ 24 (.int .u32 m.router)).set_ 25 (.int .u32 m.resolver)).set_ 9 (.int .i64 1)).set_ 8 (.int .i64 (now + 40))
    exact Blk.eq_ H (by kernel_rfl)
  have G1 : W0.grownBy (((((((((((((((((((W0.setCell ⟨b, 6, none⟩ (.int .i64 2)).setCell ⟨b, 10, none⟩ (.int .i64 m.op)).setCell ⟨b, 11, none⟩ (.int .u32 m.id)).setCell ⟨b, 12, none⟩ (.int .u32 m.yours)).setCell ⟨b, 13, none⟩ (.int .u8 m.cl.a)).setCell ⟨b, 14, none⟩ (.int .u8 m.cl.b)).setCell ⟨b, 15, none⟩ (.int .u8 m.cl.c)).setCell ⟨b, 16, none⟩ (.int .u8 m.cl.d)).setCell ⟨b, 17, none⟩ (.int .u8 m.cl.e)).setCell ⟨b, 18, none⟩ (.int .u8 m.cl.f)).setCell ⟨b, 19, none⟩ (.int .i64 m.ty)).setCell ⟨b, 20, none⟩ (.int .u32 m.server)).setCell ⟨b, 21, none⟩ (.int .u32 m.asked)).setCell ⟨b, 22, none⟩ (.int .i64 m.time)).setCell ⟨b, 23, none⟩ (.int .u32 m.mask)).setCell ⟨b, 24, none⟩ (.int .u32 m.router)).setCell ⟨b, 25, none⟩ (.int .u32 m.resolver)).setCell ⟨b, 9, none⟩ (.int .i64 1)).setCell ⟨b, 8, none⟩ (.int .i64 (now + 40))) (some b) := only_setCell (p := ⟨b, 8, none⟩) (only_setCell (p := ⟨b, 9, none⟩) (only_setCell (p := ⟨b, 25, none⟩) (only_setCell (p := ⟨b, 24, none⟩) (only_setCell (p := ⟨b, 23, none⟩) (only_setCell (p := ⟨b, 22, none⟩) (only_setCell (p := ⟨b, 21, none⟩) (only_setCell (p := ⟨b, 20, none⟩) (only_setCell (p := ⟨b, 19, none⟩) (only_setCell (p := ⟨b, 18, none⟩) (only_setCell (p := ⟨b, 17, none⟩) (only_setCell (p := ⟨b, 16, none⟩) (only_setCell (p := ⟨b, 15, none⟩) (only_setCell (p := ⟨b, 14, none⟩) (only_setCell (p := ⟨b, 13, none⟩) (only_setCell (p := ⟨b, 12, none⟩) (only_setCell (p := ⟨b, 11, none⟩) (only_setCell (p := ⟨b, 10, none⟩) (only_setCell (p := ⟨b, 6, none⟩) (World.grownBy.refl _ _) (.inl rfl) _) (.inl rfl) _) (.inl rfl) _) (.inl rfl) _) (.inl rfl) _) (.inl rfl) _) (.inl rfl) _) (.inl rfl) _) (.inl rfl) _) (.inl rfl) _) (.inl rfl) _) (.inl rfl) _) (.inl rfl) _) (.inl rfl) _) (.inl rfl) _) (.inl rfl) _) (.inl rfl) _) (.inl rfl) _) (.inl rfl) _
  have H1' := Lib.hid H1; clear H1
  have G1' := Lib.hid G1; clear G1
  clear hHeld hI0 hn1 hn2 e0 o10 f10 e1 o11 f11 e2 o12 f12 e3 o13 f13 e4 o14 f14 e5 o15 f15 e6 o16 f16 e7 o17 f17 e8 o18 f18 e9 o19 f19 e10 o20 f20 e11 o21 f21 e12 o22 f22 e13 o23 f23 e14 o24 f24 e15 o25 f25 o6 o8 o9 f6 f8 f9
  go_wp2_with fail
  refine (sameC b mac _ _ (Blk.drew H1'.out)).mono ?_
  rintro e w4 ⟨v, rfl, hm, hb⟩
  go_wp2
  go_ret
  have g4 : w.grownBy (World.drew (((((((((((((((((((W0.setCell ⟨b, 6, none⟩ (.int .i64 2)).setCell ⟨b, 10, none⟩ (.int .i64 m.op)).setCell ⟨b, 11, none⟩ (.int .u32 m.id)).setCell ⟨b, 12, none⟩ (.int .u32 m.yours)).setCell ⟨b, 13, none⟩ (.int .u8 m.cl.a)).setCell ⟨b, 14, none⟩ (.int .u8 m.cl.b)).setCell ⟨b, 15, none⟩ (.int .u8 m.cl.c)).setCell ⟨b, 16, none⟩ (.int .u8 m.cl.d)).setCell ⟨b, 17, none⟩ (.int .u8 m.cl.e)).setCell ⟨b, 18, none⟩ (.int .u8 m.cl.f)).setCell ⟨b, 19, none⟩ (.int .i64 m.ty)).setCell ⟨b, 20, none⟩ (.int .u32 m.server)).setCell ⟨b, 21, none⟩ (.int .u32 m.asked)).setCell ⟨b, 22, none⟩ (.int .i64 m.time)).setCell ⟨b, 23, none⟩ (.int .u32 m.mask)).setCell ⟨b, 24, none⟩ (.int .u32 m.router)).setCell ⟨b, 25, none⟩ (.int .u32 m.resolver)).setCell ⟨b, 9, none⟩ (.int .i64 1)).setCell ⟨b, 8, none⟩ (.int .i64 (now + 40)))) (some b) := only_trans hG0 (only_drew G1'.out)
  exact ⟨v, rfl, hm.more g4.size, Blk.nx (Blk.drew H1'.out) hb, only_nx g4 hb⟩
end Go.Proofs.Ytgdlghieifadhaa
