/-
  The reference's client of a lease: it goes on to a tick.
-/
import Derived.Test.YtgdlghieifadhaaLr3
set_option linter.unusedVariables false
namespace Go.Proofs.Ytgdlghieifadhaa
open Go.RowKit

set_option maxRecDepth 100000 in
set_option maxHeartbeats 800000 in
theorem tickF_over (b : Nat) (mac : M6) (s : St) (now draw : Int) (w : World) (h : IsRf w b mac s) (hs : s.ok) (h0 : 0 ≤ now) (h1 : now ≤ 1152921504606846976) (h3 : 3 ≤ s.st) (hov : s.fr + 10 * s.lease.time ≤ now) :
    Calls Try.prog 22 #[.pointer (some ⟨b, 0, none⟩), .int .i64 now, .int .i64 draw] w fun e w' => DoesR w w' b mac (beginF s now draw) (some (says mac (draw % 4294967296) 1 0 0)) e := by
  have c6 : w.cell? ⟨b, 6, none⟩ = some (.int .i64 s.st) := h.cell 6
  have c38 : w.cell? ⟨b, 38, none⟩ = some (.int .i64 s.lease.time) := h.cell 38
  have c42 : w.cell? ⟨b, 42, none⟩ = some (.int .i64 s.fr) := h.cell 42
  have t0 := hs.t0
  have t1 := hs.t1
  have r0 := hs.f0
  have r1 := hs.f1
  go_enter Try.func22, Try.ntmps22
  go_wp2_with fail
  refine (later s.fr (10 * s.lease.time) _ r0 (by omega) (by omega) (by omega)).mono ?_
  rintro e w1 ⟨rfl, rfl⟩
  go_wp2_with fail
  refine (beginF_ b mac s now draw _ h h0 h1).mono ?_
  rintro e w2 ⟨v, rfl, hd⟩
  go_wp2
  go_ret
  exact ⟨v, rfl, hd⟩
set_option maxRecDepth 100000 in
set_option maxHeartbeats 800000 in
theorem tickF_idle (b : Nat) (mac : M6) (s : St) (now draw : Int) (w : World) (h : IsRf w b mac s) (hs : s.ok) (h0 : 0 ≤ now) (h1 : now ≤ 1152921504606846976) (h3 : s.st = 0) :
    Calls Try.prog 22 #[.pointer (some ⟨b, 0, none⟩), .int .i64 now, .int .i64 draw] w fun e w' => DoesR w w' b mac s none e := by
  have c6 : w.cell? ⟨b, 6, none⟩ = some (.int .i64 s.st) := h.cell 6
  have c38 : w.cell? ⟨b, 38, none⟩ = some (.int .i64 s.lease.time) := h.cell 38
  have c42 : w.cell? ⟨b, 42, none⟩ = some (.int .i64 s.fr) := h.cell 42
  have t0 := hs.t0
  have t1 := hs.t1
  have r0 := hs.f0
  have r1 := hs.f1
  have q0 : ((s.st : Int) == 0) = true := by rw [beq_iff_eq]; exact h3
  have q3 : s.st < 3 := by omega
  clear h3
  go_enter Try.func22, Try.ntmps22
  go_wp2
  go_ret
  exact ⟨_, rfl, rfl, h, World.grownBy.refl _ _⟩
set_option maxRecDepth 100000 in
set_option maxHeartbeats 800000 in
theorem tickF_early1 (b : Nat) (mac : M6) (s : St) (now draw : Int) (w : World) (h : IsRf w b mac s) (hs : s.ok) (h0 : 0 ≤ now) (h1 : now ≤ 1152921504606846976) (h3 : s.st < 3) (h4 : s.st ≠ 0) (hn : now < s.next) :
    Calls Try.prog 22 #[.pointer (some ⟨b, 0, none⟩), .int .i64 now, .int .i64 draw] w fun e w' => DoesR w w' b mac s none e := by
  have c6 : w.cell? ⟨b, 6, none⟩ = some (.int .i64 s.st) := h.cell 6
  have c38 : w.cell? ⟨b, 38, none⟩ = some (.int .i64 s.lease.time) := h.cell 38
  have c42 : w.cell? ⟨b, 42, none⟩ = some (.int .i64 s.fr) := h.cell 42
  have t0 := hs.t0
  have t1 := hs.t1
  have r0 := hs.f0
  have r1 := hs.f1
  have c8 : w.cell? ⟨b, 8, none⟩ = some (.int .i64 s.next) := h.cell 8
  have q0 : ((s.st : Int) == 0) = false := by rw [beq_eq_false_iff_ne]; exact h4
  clear h4
  go_enter Try.func22, Try.ntmps22
  go_wp2
  go_ret
  exact ⟨_, rfl, rfl, h, World.grownBy.refl _ _⟩
set_option maxRecDepth 100000 in
set_option maxHeartbeats 800000 in
theorem tickF_early3 (b : Nat) (mac : M6) (s : St) (now draw : Int) (w : World) (h : IsRf w b mac s) (hs : s.ok) (h0 : 0 ≤ now) (h1 : now ≤ 1152921504606846976) (h3 : 3 ≤ s.st) (hov : now < s.fr + 10 * s.lease.time) (hn : now < s.next) :
    Calls Try.prog 22 #[.pointer (some ⟨b, 0, none⟩), .int .i64 now, .int .i64 draw] w fun e w' => DoesR w w' b mac s none e := by
  have c6 : w.cell? ⟨b, 6, none⟩ = some (.int .i64 s.st) := h.cell 6
  have c38 : w.cell? ⟨b, 38, none⟩ = some (.int .i64 s.lease.time) := h.cell 38
  have c42 : w.cell? ⟨b, 42, none⟩ = some (.int .i64 s.fr) := h.cell 42
  have t0 := hs.t0
  have t1 := hs.t1
  have r0 := hs.f0
  have r1 := hs.f1
  have c8 : w.cell? ⟨b, 8, none⟩ = some (.int .i64 s.next) := h.cell 8
  have q0 : ((s.st : Int) == 0) = false := by rw [beq_eq_false_iff_ne]; omega
  go_enter Try.func22, Try.ntmps22
  go_wp2_with fail
  refine (later s.fr (10 * s.lease.time) _ r0 (by omega) (by omega) (by omega)).mono ?_
  rintro e w1 ⟨rfl, rfl⟩
  go_wp2
  go_ret
  exact ⟨_, rfl, rfl, h, World.grownBy.refl _ _⟩
set_option maxRecDepth 100000 in
set_option maxHeartbeats 800000 in
theorem tickF_again1 (b : Nat) (mac : M6) (s : St) (now draw : Int) (w : World) (h : IsRf w b mac s) (hs : s.ok) (h0 : 0 ≤ now) (h1 : now ≤ 1152921504606846976) (h3 : s.st = 1) (hn : s.next ≤ now) (ht : s.tried = 4) :
    Calls Try.prog 22 #[.pointer (some ⟨b, 0, none⟩), .int .i64 now, .int .i64 draw] w fun e w' => DoesR w w' b mac (beginF s now draw) (some (says mac (draw % 4294967296) 1 0 0)) e := by
  have c6 : w.cell? ⟨b, 6, none⟩ = some (.int .i64 s.st) := h.cell 6
  have c38 : w.cell? ⟨b, 38, none⟩ = some (.int .i64 s.lease.time) := h.cell 38
  have c42 : w.cell? ⟨b, 42, none⟩ = some (.int .i64 s.fr) := h.cell 42
  have t0 := hs.t0
  have t1 := hs.t1
  have r0 := hs.f0
  have r1 := hs.f1
  have c8 : w.cell? ⟨b, 8, none⟩ = some (.int .i64 s.next) := h.cell 8
  have f8 := Blk.frozen h 8
  have c9 : w.cell? ⟨b, 9, none⟩ = some (.int .i64 s.tried) := h.cell 9
  have f9 := Blk.frozen h 9
  have n0 := hs.n0
  have n1 := hs.n1
  have q0 : ((s.st : Int) == 0) = false := by rw [beq_eq_false_iff_ne]; omega
  have q3 : s.st < 3 := by omega
  have q1 : ((s.st : Int) == 1) = true := by rw [beq_iff_eq]; exact h3
  have q4 : 4 ≤ s.tried := by omega
  clear h3 ht
  go_enter Try.func22, Try.ntmps22
  go_wp2_with fail
  refine (beginF_ b mac s now draw _ h h0 h1).mono ?_
  rintro e w2 ⟨v, rfl, hd⟩
  go_wp2
  go_ret
  exact ⟨v, rfl, hd⟩
set_option maxRecDepth 100000 in
set_option maxHeartbeats 800000 in
theorem tickF_try1 (b : Nat) (mac : M6) (s : St) (now draw : Int) (w : World) (h : IsRf w b mac s) (hs : s.ok) (h0 : 0 ≤ now) (h1 : now ≤ 1152921504606846976) (h3 : s.st = 1) (hn : s.next ≤ now) (ht : s.tried ≠ 4) :
    Calls Try.prog 22 #[.pointer (some ⟨b, 0, none⟩), .int .i64 now, .int .i64 draw] w fun e w' => DoesR w w' b mac { s with tried := s.tried + 1, next := now + 40 * (s.tried + 1) } (some (says mac s.id 1 0 0)) e := by
  have c6 : w.cell? ⟨b, 6, none⟩ = some (.int .i64 s.st) := h.cell 6
  have c38 : w.cell? ⟨b, 38, none⟩ = some (.int .i64 s.lease.time) := h.cell 38
  have c42 : w.cell? ⟨b, 42, none⟩ = some (.int .i64 s.fr) := h.cell 42
  have t0 := hs.t0
  have t1 := hs.t1
  have r0 := hs.f0
  have r1 := hs.f1
  have c8 : w.cell? ⟨b, 8, none⟩ = some (.int .i64 s.next) := h.cell 8
  have f8 := Blk.frozen h 8
  have c9 : w.cell? ⟨b, 9, none⟩ = some (.int .i64 s.tried) := h.cell 9
  have f9 := Blk.frozen h 9
  have n0 := hs.n0
  have n1 := hs.n1
  have q0 : ((s.st : Int) == 0) = false := by rw [beq_eq_false_iff_ne]; omega
  have q3 : s.st < 3 := by omega
  have q1 : ((s.st : Int) == 1) = true := by rw [beq_iff_eq]; exact h3
  have q4 : s.tried < 4 := by omega
  have H1 : Hid (IsRf ((w.setCell ⟨b, 9, none⟩ (.int .i64 (s.tried + 1))).setCell ⟨b, 8, none⟩ (.int .i64 (now + 40 * (s.tried + 1)))) b mac { s with tried := s.tried + 1, next := now + 40 * (s.tried + 1) }) := (h.set 9 _ { s with tried := s.tried + 1 } rfl).set 8 _ _ rfl
  have g1 : w.grownBy ((w.setCell ⟨b, 9, none⟩ (.int .i64 (s.tried + 1))).setCell ⟨b, 8, none⟩ (.int .i64 (now + 40 * (s.tried + 1)))) (some b) := only_setCell (p := ⟨b, 8, none⟩) (only_setCell (p := ⟨b, 9, none⟩) (World.grownBy.refl _ _) (.inl rfl) _) (.inl rfl) _
  have G1 := Lib.hid g1; clear g1
  clear h3 ht
  go_enter Try.func22, Try.ntmps22
  go_wp2_with fail
  refine (later now (40 * (s.tried + 1)) _ h0 (by omega) (by omega) (by omega)).mono ?_
  rintro e w1 ⟨rfl, rfl⟩
  go_wp2_with fail
  refine (sendsF b mac _ _ _ _ _ H1.out).mono ?_
  rintro e w2 ⟨v, rfl, hm, hb⟩
  go_wp2
  go_ret
  exact ⟨v, rfl, hm.more G1.out.size, H1.out.nx hb, only_nx G1.out hb⟩
set_option maxRecDepth 100000 in
set_option maxHeartbeats 800000 in
theorem tickF_again2 (b : Nat) (mac : M6) (s : St) (now draw : Int) (w : World) (h : IsRf w b mac s) (hs : s.ok) (h0 : 0 ≤ now) (h1 : now ≤ 1152921504606846976) (h3 : s.st = 2) (hn : s.next ≤ now) (ht : s.tried = 4) :
    Calls Try.prog 22 #[.pointer (some ⟨b, 0, none⟩), .int .i64 now, .int .i64 draw] w fun e w' => DoesR w w' b mac (beginF s now draw) (some (says mac (draw % 4294967296) 1 0 0)) e := by
  have c6 : w.cell? ⟨b, 6, none⟩ = some (.int .i64 s.st) := h.cell 6
  have c38 : w.cell? ⟨b, 38, none⟩ = some (.int .i64 s.lease.time) := h.cell 38
  have c42 : w.cell? ⟨b, 42, none⟩ = some (.int .i64 s.fr) := h.cell 42
  have t0 := hs.t0
  have t1 := hs.t1
  have r0 := hs.f0
  have r1 := hs.f1
  have c8 : w.cell? ⟨b, 8, none⟩ = some (.int .i64 s.next) := h.cell 8
  have f8 := Blk.frozen h 8
  have c9 : w.cell? ⟨b, 9, none⟩ = some (.int .i64 s.tried) := h.cell 9
  have f9 := Blk.frozen h 9
  have n0 := hs.n0
  have n1 := hs.n1
  have q0 : ((s.st : Int) == 0) = false := by rw [beq_eq_false_iff_ne]; omega
  have q3 : s.st < 3 := by omega
  have q1 : ((s.st : Int) == 1) = false := by rw [beq_eq_false_iff_ne]; omega
  have q2 : ((s.st : Int) == 2) = true := by rw [beq_iff_eq]; exact h3
  have q4 : 4 ≤ s.tried := by omega
  clear h3 ht
  go_enter Try.func22, Try.ntmps22
  go_wp2_with fail
  refine (beginF_ b mac s now draw _ h h0 h1).mono ?_
  rintro e w2 ⟨v, rfl, hd⟩
  go_wp2
  go_ret
  exact ⟨v, rfl, hd⟩
set_option maxRecDepth 100000 in
set_option maxHeartbeats 800000 in
theorem tickF_renew3 (b : Nat) (mac : M6) (s : St) (now draw : Int) (w : World) (h : IsRf w b mac s) (hs : s.ok) (h0 : 0 ≤ now) (h1 : now ≤ 1152921504606846976) (h3 : s.st = 3) (hov : now < s.fr + 10 * s.lease.time) (hn : s.next ≤ now) :
    Calls Try.prog 22 #[.pointer (some ⟨b, 0, none⟩), .int .i64 now, .int .i64 draw] w fun e w' => DoesR w w' b mac { s with st := 4, next := now + 60 } (some (says mac s.id 3 s.lease.yours 0)) e := by
  have c6 : w.cell? ⟨b, 6, none⟩ = some (.int .i64 s.st) := h.cell 6
  have c38 : w.cell? ⟨b, 38, none⟩ = some (.int .i64 s.lease.time) := h.cell 38
  have c42 : w.cell? ⟨b, 42, none⟩ = some (.int .i64 s.fr) := h.cell 42
  have t0 := hs.t0
  have t1 := hs.t1
  have r0 := hs.f0
  have r1 := hs.f1
  have c8 : w.cell? ⟨b, 8, none⟩ = some (.int .i64 s.next) := h.cell 8
  have f8 := Blk.frozen h 8
  have f6 := Blk.frozen h 6
  have c28 : w.cell? ⟨b, 28, none⟩ = some (.int .u32 s.lease.yours) := h.cell 28
  have q0 : ((s.st : Int) == 0) = false := by rw [beq_eq_false_iff_ne]; omega
  have q1 : ((s.st : Int) == 1) = false := by rw [beq_eq_false_iff_ne]; omega
  have q2 : ((s.st : Int) == 2) = false := by rw [beq_eq_false_iff_ne]; omega
  have q3 : ((s.st : Int) == 3) = true := by rw [beq_iff_eq]; exact h3
  have q4 : 3 ≤ s.st := by omega
  clear h3
  have H1 : Hid (IsRf ((w.setCell ⟨b, 6, none⟩ (.int .i64 4)).setCell ⟨b, 8, none⟩ (.int .i64 (now + 60))) b mac { s with st := 4, next := now + 60 }) := (h.set 6 _ { s with st := 4 } rfl).set 8 _ _ rfl
  have g1 : w.grownBy ((w.setCell ⟨b, 6, none⟩ (.int .i64 4)).setCell ⟨b, 8, none⟩ (.int .i64 (now + 60))) (some b) := only_setCell (p := ⟨b, 8, none⟩) (only_setCell (p := ⟨b, 6, none⟩) (World.grownBy.refl _ _) (.inl rfl) _) (.inl rfl) _
  have G1 := Lib.hid g1; clear g1
  go_enter Try.func22, Try.ntmps22
  go_wp2_with fail
  refine (later s.fr (10 * s.lease.time) _ r0 (by omega) (by omega) (by omega)).mono ?_
  rintro e w1 ⟨rfl, rfl⟩
  go_wp2_with fail
  refine (later now 60 _ h0 (by omega) (by omega) (by omega)).mono ?_
  rintro e w1 ⟨rfl, rfl⟩
  go_wp2_with fail
  refine (sendsF b mac _ _ _ _ _ H1.out).mono ?_
  rintro e w2 ⟨v, rfl, hm, hb⟩
  go_wp2
  go_ret
  exact ⟨v, rfl, hm.more G1.out.size, H1.out.nx hb, only_nx G1.out hb⟩
set_option maxRecDepth 100000 in
set_option maxHeartbeats 800000 in
theorem tickF_renew4l (b : Nat) (mac : M6) (s : St) (now draw : Int) (w : World) (h : IsRf w b mac s) (hs : s.ok) (h0 : 0 ≤ now) (h1 : now ≤ 1152921504606846976) (h3 : s.st = 4) (hl : late s ≤ now) (hov : now < s.fr + 10 * s.lease.time) (hn : s.next ≤ now) :
    Calls Try.prog 22 #[.pointer (some ⟨b, 0, none⟩), .int .i64 now, .int .i64 draw] w fun e w' => DoesR w w' b mac { s with st := 5, next := now + 60 } (some (says mac s.id 3 s.lease.yours 0)) e := by
  have c6 : w.cell? ⟨b, 6, none⟩ = some (.int .i64 s.st) := h.cell 6
  have c38 : w.cell? ⟨b, 38, none⟩ = some (.int .i64 s.lease.time) := h.cell 38
  have c42 : w.cell? ⟨b, 42, none⟩ = some (.int .i64 s.fr) := h.cell 42
  have t0 := hs.t0
  have t1 := hs.t1
  have r0 := hs.f0
  have r1 := hs.f1
  have c8 : w.cell? ⟨b, 8, none⟩ = some (.int .i64 s.next) := h.cell 8
  have f8 := Blk.frozen h 8
  have f6 := Blk.frozen h 6
  have c28 : w.cell? ⟨b, 28, none⟩ = some (.int .u32 s.lease.yours) := h.cell 28
  have q0 : ((s.st : Int) == 0) = false := by rw [beq_eq_false_iff_ne]; omega
  have q1 : ((s.st : Int) == 1) = false := by rw [beq_eq_false_iff_ne]; omega
  have q2 : ((s.st : Int) == 2) = false := by rw [beq_eq_false_iff_ne]; omega
  have q3 : ((s.st : Int) == 3) = false := by rw [beq_eq_false_iff_ne]; omega
  have q5 : ((s.st : Int) == 4) = true := by rw [beq_iff_eq]; exact h3
  have q4 : 3 ≤ s.st := by omega
  clear h3
  have H1 : Hid (IsRf ((w.setCell ⟨b, 6, none⟩ (.int .i64 5)).setCell ⟨b, 8, none⟩ (.int .i64 (now + 60))) b mac { s with st := 5, next := now + 60 }) := (h.set 6 _ { s with st := 5 } rfl).set 8 _ _ rfl
  have g1 : w.grownBy ((w.setCell ⟨b, 6, none⟩ (.int .i64 5)).setCell ⟨b, 8, none⟩ (.int .i64 (now + 60))) (some b) := only_setCell (p := ⟨b, 8, none⟩) (only_setCell (p := ⟨b, 6, none⟩) (World.grownBy.refl _ _) (.inl rfl) _) (.inl rfl) _
  have G1 := Lib.hid g1; clear g1
  unfold late at hl
  go_enter Try.func22, Try.ntmps22
  go_wp2_with fail
  refine (later s.fr (10 * s.lease.time) _ r0 (by omega) (by omega) (by omega)).mono ?_
  rintro e w1 ⟨rfl, rfl⟩
  go_wp2_with fail
  refine (later s.fr (10 * s.lease.time / 8 * 7 + 10 * s.lease.time % 8 * 7 / 8) _ r0 (by omega) (by omega) (by omega)).mono ?_
  rintro e w1 ⟨rfl, rfl⟩
  go_wp2_with fail
  refine (later now 60 _ h0 (by omega) (by omega) (by omega)).mono ?_
  rintro e w1 ⟨rfl, rfl⟩
  go_wp2_with fail
  refine (sendsF b mac _ _ _ _ _ H1.out).mono ?_
  rintro e w2 ⟨v, rfl, hm, hb⟩
  go_wp2
  go_ret
  exact ⟨v, rfl, hm.more G1.out.size, H1.out.nx hb, only_nx G1.out hb⟩
set_option maxRecDepth 100000 in
set_option maxHeartbeats 800000 in
theorem tickF_renew4 (b : Nat) (mac : M6) (s : St) (now draw : Int) (w : World) (h : IsRf w b mac s) (hs : s.ok) (h0 : 0 ≤ now) (h1 : now ≤ 1152921504606846976) (h3 : s.st = 4) (hl : now < late s) (hov : now < s.fr + 10 * s.lease.time) (hn : s.next ≤ now) :
    Calls Try.prog 22 #[.pointer (some ⟨b, 0, none⟩), .int .i64 now, .int .i64 draw] w fun e w' => DoesR w w' b mac { s with next := now + 60 } (some (says mac s.id 3 s.lease.yours 0)) e := by
  have c6 : w.cell? ⟨b, 6, none⟩ = some (.int .i64 s.st) := h.cell 6
  have c38 : w.cell? ⟨b, 38, none⟩ = some (.int .i64 s.lease.time) := h.cell 38
  have c42 : w.cell? ⟨b, 42, none⟩ = some (.int .i64 s.fr) := h.cell 42
  have t0 := hs.t0
  have t1 := hs.t1
  have r0 := hs.f0
  have r1 := hs.f1
  have c8 : w.cell? ⟨b, 8, none⟩ = some (.int .i64 s.next) := h.cell 8
  have f8 := Blk.frozen h 8
  have f6 := Blk.frozen h 6
  have c28 : w.cell? ⟨b, 28, none⟩ = some (.int .u32 s.lease.yours) := h.cell 28
  have q0 : ((s.st : Int) == 0) = false := by rw [beq_eq_false_iff_ne]; omega
  have q1 : ((s.st : Int) == 1) = false := by rw [beq_eq_false_iff_ne]; omega
  have q2 : ((s.st : Int) == 2) = false := by rw [beq_eq_false_iff_ne]; omega
  have q3 : ((s.st : Int) == 3) = false := by rw [beq_eq_false_iff_ne]; omega
  have q5 : ((s.st : Int) == 4) = true := by rw [beq_iff_eq]; exact h3
  have q4 : 3 ≤ s.st := by omega
  clear h3
  have H1 : Hid (IsRf (w.setCell ⟨b, 8, none⟩ (.int .i64 (now + 60))) b mac { s with next := now + 60 }) := h.set 8 _ _ rfl
  have g1 : w.grownBy (w.setCell ⟨b, 8, none⟩ (.int .i64 (now + 60))) (some b) := only_setCell (p := ⟨b, 8, none⟩) (World.grownBy.refl _ _) (.inl rfl) _
  have G1 := Lib.hid g1; clear g1
  unfold late at hl
  go_enter Try.func22, Try.ntmps22
  go_wp2_with fail
  refine (later s.fr (10 * s.lease.time) _ r0 (by omega) (by omega) (by omega)).mono ?_
  rintro e w1 ⟨rfl, rfl⟩
  go_wp2_with fail
  refine (later s.fr (10 * s.lease.time / 8 * 7 + 10 * s.lease.time % 8 * 7 / 8) _ r0 (by omega) (by omega) (by omega)).mono ?_
  rintro e w1 ⟨rfl, rfl⟩
  go_wp2_with fail
  refine (later now 60 _ h0 (by omega) (by omega) (by omega)).mono ?_
  rintro e w1 ⟨rfl, rfl⟩
  go_wp2_with fail
  refine (sendsF b mac _ _ _ _ _ H1.out).mono ?_
  rintro e w2 ⟨v, rfl, hm, hb⟩
  go_wp2
  go_ret
  exact ⟨v, rfl, hm.more G1.out.size, H1.out.nx hb, only_nx G1.out hb⟩
set_option maxRecDepth 100000 in
set_option maxHeartbeats 800000 in
theorem tickF_renew5 (b : Nat) (mac : M6) (s : St) (now draw : Int) (w : World) (h : IsRf w b mac s) (hs : s.ok) (h0 : 0 ≤ now) (h1 : now ≤ 1152921504606846976) (h3 : s.st = 5) (hov : now < s.fr + 10 * s.lease.time) (hn : s.next ≤ now) :
    Calls Try.prog 22 #[.pointer (some ⟨b, 0, none⟩), .int .i64 now, .int .i64 draw] w fun e w' => DoesR w w' b mac { s with next := now + 60 } (some (says mac s.id 3 s.lease.yours 0)) e := by
  have c6 : w.cell? ⟨b, 6, none⟩ = some (.int .i64 s.st) := h.cell 6
  have c38 : w.cell? ⟨b, 38, none⟩ = some (.int .i64 s.lease.time) := h.cell 38
  have c42 : w.cell? ⟨b, 42, none⟩ = some (.int .i64 s.fr) := h.cell 42
  have t0 := hs.t0
  have t1 := hs.t1
  have r0 := hs.f0
  have r1 := hs.f1
  have c8 : w.cell? ⟨b, 8, none⟩ = some (.int .i64 s.next) := h.cell 8
  have f8 := Blk.frozen h 8
  have f6 := Blk.frozen h 6
  have c28 : w.cell? ⟨b, 28, none⟩ = some (.int .u32 s.lease.yours) := h.cell 28
  have q0 : ((s.st : Int) == 0) = false := by rw [beq_eq_false_iff_ne]; omega
  have q1 : ((s.st : Int) == 1) = false := by rw [beq_eq_false_iff_ne]; omega
  have q2 : ((s.st : Int) == 2) = false := by rw [beq_eq_false_iff_ne]; omega
  have q3 : ((s.st : Int) == 3) = false := by rw [beq_eq_false_iff_ne]; omega
  have q5 : ((s.st : Int) == 4) = false := by rw [beq_eq_false_iff_ne]; omega
  have q4 : 3 ≤ s.st := by omega
  clear h3
  have H1 : Hid (IsRf (w.setCell ⟨b, 8, none⟩ (.int .i64 (now + 60))) b mac { s with next := now + 60 }) := h.set 8 _ _ rfl
  have g1 : w.grownBy (w.setCell ⟨b, 8, none⟩ (.int .i64 (now + 60))) (some b) := only_setCell (p := ⟨b, 8, none⟩) (World.grownBy.refl _ _) (.inl rfl) _
  have G1 := Lib.hid g1; clear g1
  go_enter Try.func22, Try.ntmps22
  go_wp2_with fail
  refine (later s.fr (10 * s.lease.time) _ r0 (by omega) (by omega) (by omega)).mono ?_
  rintro e w1 ⟨rfl, rfl⟩
  go_wp2_with fail
  refine (later now 60 _ h0 (by omega) (by omega) (by omega)).mono ?_
  rintro e w1 ⟨rfl, rfl⟩
  go_wp2_with fail
  refine (sendsF b mac _ _ _ _ _ H1.out).mono ?_
  rintro e w2 ⟨v, rfl, hm, hb⟩
  go_wp2
  go_ret
  exact ⟨v, rfl, hm.more G1.out.size, H1.out.nx hb, only_nx G1.out hb⟩
set_option maxRecDepth 100000 in
set_option maxHeartbeats 800000 in
theorem tickF_try2 (b : Nat) (mac : M6) (s : St) (now draw : Int) (w : World) (h : IsRf w b mac s) (hs : s.ok) (h0 : 0 ≤ now) (h1 : now ≤ 1152921504606846976) (h3 : s.st = 2) (hn : s.next ≤ now) (ht : s.tried ≠ 4) :
    Calls Try.prog 22 #[.pointer (some ⟨b, 0, none⟩), .int .i64 now, .int .i64 draw] w fun e w' => DoesR w w' b mac { s with tried := s.tried + 1, next := now + 40 * (s.tried + 1) } (some (says mac s.id 3 s.offer.yours s.offer.server)) e := by
  have c6 : w.cell? ⟨b, 6, none⟩ = some (.int .i64 s.st) := h.cell 6
  have c38 : w.cell? ⟨b, 38, none⟩ = some (.int .i64 s.lease.time) := h.cell 38
  have c42 : w.cell? ⟨b, 42, none⟩ = some (.int .i64 s.fr) := h.cell 42
  have t0 := hs.t0
  have t1 := hs.t1
  have r0 := hs.f0
  have r1 := hs.f1
  have c8 : w.cell? ⟨b, 8, none⟩ = some (.int .i64 s.next) := h.cell 8
  have f8 := Blk.frozen h 8
  have c9 : w.cell? ⟨b, 9, none⟩ = some (.int .i64 s.tried) := h.cell 9
  have f9 := Blk.frozen h 9
  have n0 := hs.n0
  have n1 := hs.n1
  have q0 : ((s.st : Int) == 0) = false := by rw [beq_eq_false_iff_ne]; omega
  have q3 : s.st < 3 := by omega
  have q1 : ((s.st : Int) == 1) = false := by rw [beq_eq_false_iff_ne]; omega
  have q2 : ((s.st : Int) == 2) = true := by rw [beq_iff_eq]; exact h3
  have q4 : s.tried < 4 := by omega
  have H1 : Hid (IsRf ((w.setCell ⟨b, 9, none⟩ (.int .i64 (s.tried + 1))).setCell ⟨b, 8, none⟩ (.int .i64 (now + 40 * (s.tried + 1)))) b mac { s with tried := s.tried + 1, next := now + 40 * (s.tried + 1) }) := (h.set 9 _ { s with tried := s.tried + 1 } rfl).set 8 _ _ rfl
  have g1 : w.grownBy ((w.setCell ⟨b, 9, none⟩ (.int .i64 (s.tried + 1))).setCell ⟨b, 8, none⟩ (.int .i64 (now + 40 * (s.tried + 1)))) (some b) := only_setCell (p := ⟨b, 8, none⟩) (only_setCell (p := ⟨b, 9, none⟩) (World.grownBy.refl _ _) (.inl rfl) _) (.inl rfl) _
  have G1 := Lib.hid g1; clear g1
  clear h3 ht
  go_enter Try.func22, Try.ntmps22
  go_wp2_with fail
  refine (later now (40 * (s.tried + 1)) _ h0 (by omega) (by omega) (by omega)).mono ?_
  rintro e w1 ⟨rfl, rfl⟩
  have c12 : w.cell? ⟨b, 12, none⟩ = some (.int .u32 s.offer.yours) := h.cell 12
  have c20 : w.cell? ⟨b, 20, none⟩ = some (.int .u32 s.offer.server) := h.cell 20
  have KK : ∀ w', Below ((w.setCell ⟨b, 9, none⟩ (.int .i64 (s.tried + 1))).setCell ⟨b, 8, none⟩ (.int .i64 (now + 40 * (s.tried + 1)))).heap.size ((w.setCell ⟨b, 9, none⟩ (.int .i64 (s.tried + 1))).setCell ⟨b, 8, none⟩ (.int .i64 (now + 40 * (s.tried + 1)))) w' → w'.cell? ⟨b, 12, none⟩ = some (.int .u32 s.offer.yours) ∧ w'.cell? ⟨b, 20, none⟩ = some (.int .u32 s.offer.server) := fun w' k => ⟨(k.cell (p := ⟨b, 12, none⟩) (Blk.lt H1.out)).trans (H1.out.cell 12), (k.cell (p := ⟨b, 20, none⟩) (Blk.lt H1.out)).trans (H1.out.cell 20)⟩
  have K := Lib.hid KK; clear KK
  go_wp2
  go_region_held3 (fun w' => w'.cell? ⟨b, 12, none⟩ = some (.int .u32 s.offer.yours) ∧ w'.cell? ⟨b, 20, none⟩ = some (.int .u32 s.offer.server)) (first | exact K.out _ (rf _).drew | exact K.out _ (nx (rf _).drew (by assumption)) | go_keep)
    (first | (go_at_call 41; refine (sendsF b mac _ _ _ _ _ (Blk.drew H1.out)).mono ?_; rintro e w2 ⟨v, rfl, hm, hb⟩))
  go_wp2
  go_ret
  exact ⟨v, rfl, hm.more G1.out.size, Blk.nx (Blk.drew H1.out) hb, only_nx (only_drew G1.out) hb⟩
end Go.Proofs.Ytgdlghieifadhaa
