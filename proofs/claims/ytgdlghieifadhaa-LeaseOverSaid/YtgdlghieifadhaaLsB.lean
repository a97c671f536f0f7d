/-
  A client that is bound.
-/
import Derived.Test.YtgdlghieifadhaaLs7
set_option linter.unusedVariables false
namespace Go.Proofs.Ytgdlghieifadhaa
open Go.RowKit

theorem run_results_tct {P : Program} {fn : Func} {p q r : Tmp} {ty : TypeId} (h : fn.results = #[.tmp p, .cell q ty, .tmp r]) (tmps : Array Value) (w : World) (g : Nat) (t : TypeId) (cs : Array Value) (fr : Nat × Nat) (d : TypeDesc)
    (hp : tmps.getD q undef = .pointer (some ⟨g, 0, none⟩)) (hg : w.heap[g]? = some (.cells cs t fr))
    (hu : P.underlying ty = some d) (hd : (match d with | .struct _ | .array _ _ => true | _ => false) = true) (hi : (P.info? ty).map (·.size) = some cs.size) :
    (results fn tmps).run P w = .ok (.tuple #[tmps.getD p undef, .agg cs, tmps.getD r undef]) w := by
  have hp' : tmps[q]?.getD undef = .pointer (some ⟨g, 0, none⟩) := by simpa using hp
  have := run_loadVar_row (P := P) w g t ty cs fr d hg hu hd hi
  simp [results, h, hp', asAddr, this]
def offL (mac : M6) (id yours seconds ty : Int) : Ls := ⟨2, id, yours, mac, ty, 77, 0, seconds, 0, 0, 0⟩
def started (draw now : Int) : St := beginS newS now draw
def boundS (mac : M6) (yours seconds : Int) : St := bindS (offerS (beginS newS 0 5) (offL mac 5 yours seconds 2) 1) (offL mac 5 yours seconds 5) 77 2
theorem begin_ok (s : St) (hs : s.ok) (now draw : Int) : (beginS s now draw).ok :=
  ⟨(by show (0 : Int) ≤ 1; decide), (by show (1 : Int) ≤ 5; decide), (by show (0 : Int) ≤ 0; decide), (by show (0 : Int) ≤ 2147483647; decide), hs.f0, hs.f1, (by show (0 : Int) ≤ 1; decide), (by show (1 : Int) ≤ 4; decide)⟩
theorem newS_ok : newS.ok := ⟨by decide, by decide, by decide, by decide, by decide, by decide, by decide, by decide⟩
theorem offer_ok (s : St) (hs : s.ok) (m : Ls) (now : Int) : (offerS s m now).ok :=
  ⟨(by show (0 : Int) ≤ 2; decide), (by show (2 : Int) ≤ 5; decide), hs.t0, hs.t1, hs.f0, hs.f1, (by show (0 : Int) ≤ 1; decide), (by show (1 : Int) ≤ 4; decide)⟩
theorem bind_ok (s : St) (hs : s.ok) (m : Ls) (sv now : Int) (h0 : 0 ≤ now) (h1 : now ≤ 1152921504606846976) : (bindS s m sv now).ok :=
  ⟨(by show (0 : Int) ≤ 3; decide), (by show (3 : Int) ≤ 5; decide), by have := bindL_time m sv; show 0 ≤ (bindL m sv).time; omega, (bindL_time m sv).2, h0, h1, hs.n0, hs.n1⟩
theorem m6_self (a : M6) : (a.l != a.l) = false := by simp
set_option maxRecDepth 100000 in
set_option maxHeartbeats 1600000 in
theorem boundC (mac : M6) (yours seconds : Int) (w : World) (hy : yours ≠ 0) :
    Calls Try.prog 17 #[mac.v, .int .u32 yours, .int .i64 seconds] w fun e w' => ∃ b, e = .returned (.tuple #[.pointer (some ⟨b, 0, none⟩), .agg (offL mac 5 yours seconds 5).cs.toArray, .bool true]) ∧
      w.heap.size ≤ b ∧ IsC w' b mac (boundS mac yours seconds) ∧ Below w.heap.size w w' := by
  have X0 : Blk ((w.alloc (.cells #[.int .u8 mac.a, .int .u8 mac.b, .int .u8 mac.c, .int .u8 mac.d, .int .u8 mac.e, .int .u8 mac.f] 25)).alloc (.cells #[.int .i64 0, .int .u32 0, .int .u32 0, .int .u8 0, .int .u8 0, .int .u8 0, .int .u8 0, .int .u8 0, .int .u8 0, .int .i64 0, .int .u32 0, .int .u32 0, .int .i64 0, .int .u32 0, .int .u32 0, .int .u32 0] 27)) w.heap.size 25 #[.int .u8 mac.a, .int .u8 mac.b, .int .u8 mac.c, .int .u8 mac.d, .int .u8 mac.e, .int .u8 mac.f] := (Blk.new _ _ _).alloc _
  have R0 : Blk ((w.alloc (.cells #[.int .u8 mac.a, .int .u8 mac.b, .int .u8 mac.c, .int .u8 mac.d, .int .u8 mac.e, .int .u8 mac.f] 25)).alloc (.cells #[.int .i64 0, .int .u32 0, .int .u32 0, .int .u8 0, .int .u8 0, .int .u8 0, .int .u8 0, .int .u8 0, .int .u8 0, .int .i64 0, .int .u32 0, .int .u32 0, .int .i64 0, .int .u32 0, .int .u32 0, .int .u32 0] 27)) (w.heap.size + 1) 27 zeroL.cs.toArray := blk_at _ _ _ (by simp)
  have b0 : Below w.heap.size w ((w.alloc (.cells #[.int .u8 mac.a, .int .u8 mac.b, .int .u8 mac.c, .int .u8 mac.d, .int .u8 mac.e, .int .u8 mac.f] 25)).alloc (.cells #[.int .i64 0, .int .u32 0, .int .u32 0, .int .u8 0, .int .u8 0, .int .u8 0, .int .u8 0, .int .u8 0, .int .u8 0, .int .i64 0, .int .u32 0, .int .u32 0, .int .i64 0, .int .u32 0, .int .u32 0, .int .u32 0] 27)) := al (al (rf w) _) _
  unfold M6.v
  go_enter Try.func17, Try.ntmps17
  go_wp2_with fail
  refine (newC mac _).mono ?_
  rintro e w1 ⟨b, rfl, hb, hC, hb1⟩
  have X1 := X0.nx hb1
  have R1 := R0.nx hb1
  have bw1 := nx b0 hb1
  have z1 : w.heap.size + 1 < b := by have := hb; simp at this; omega
  clear X0 R0 b0 hb1
  go_wp2_with fail
  refine (start_new b _ 0 5 _ hC (by decide) (by decide)).mono ?_
  rintro e w2 ⟨g, rfl, hg, hM, hC2, hg2⟩
  have X2 := X1.only hg2 (by omega)
  have R2 := R1.only hg2 (by omega)
  have bw2 : Below w.heap.size w w2 := bw1.trans (below_only hg2 (by omega) bw1.size)
  have hlt := Blk.lt hC
  have z3 := Blk.lt hM
  clear X1 R1 bw1 hC hg2
  have m1 : w2.cell? ⟨g, 1, none⟩ = some (.int .u32 5) := hM.cell 1
  obtain ⟨x0, x1, x2, x3, x4, x5⟩ := cells6 X2
  have e1 := World.new_ne w2 _ m1
  have e2 := World.new_ne w2 _ x0
  go_wp2
  go_region_held3 (fun w' => w'.cell? ⟨g, 1, none⟩ = some (.int .u32 5) ∧ w'.cell? ⟨w.heap.size, 0, none⟩ = some (.int .u8 mac.a) ∧ w'.cell? ⟨w.heap.size, 1, none⟩ = some (.int .u8 mac.b) ∧ w'.cell? ⟨w.heap.size, 2, none⟩ = some (.int .u8 mac.c) ∧ w'.cell? ⟨w.heap.size, 3, none⟩ = some (.int .u8 mac.d) ∧ w'.cell? ⟨w.heap.size, 4, none⟩ = some (.int .u8 mac.e) ∧ w'.cell? ⟨w.heap.size, 5, none⟩ = some (.int .u8 mac.f)) (go_keep) (fail)
  have O1 : Blk ((w2.alloc (.cells #[.int .i64 2, .int .u32 5, .int .u32 yours, .int .u8 mac.a, .int .u8 mac.b, .int .u8 mac.c, .int .u8 mac.d, .int .u8 mac.e, .int .u8 mac.f, .int .i64 2, .int .u32 77, .int .u32 0, .int .i64 seconds, .int .u32 0, .int .u32 0, .int .u32 0] 27)).drew) w2.heap.size 27 (offL mac 5 yours seconds 2).cs.toArray := Blk.new _ _ _
  have HC1 : IsC ((w2.alloc (.cells #[.int .i64 2, .int .u32 5, .int .u32 yours, .int .u8 mac.a, .int .u8 mac.b, .int .u8 mac.c, .int .u8 mac.d, .int .u8 mac.e, .int .u8 mac.f, .int .i64 2, .int .u32 77, .int .u32 0, .int .i64 seconds, .int .u32 0, .int .u32 0, .int .u32 0] 27)).drew) b mac (beginS newS 0 5) := Blk.alloc hC2 _
  have HR1 : Blk ((w2.alloc (.cells #[.int .i64 2, .int .u32 5, .int .u32 yours, .int .u8 mac.a, .int .u8 mac.b, .int .u8 mac.c, .int .u8 mac.d, .int .u8 mac.e, .int .u8 mac.f, .int .i64 2, .int .u32 77, .int .u32 0, .int .i64 seconds, .int .u32 0, .int .u32 0, .int .u32 0] 27)).drew) (w.heap.size + 1) 27 zeroL.cs.toArray := R2.alloc _
  have bw3 : Below w.heap.size w ((w2.alloc (.cells #[.int .i64 2, .int .u32 5, .int .u32 yours, .int .u8 mac.a, .int .u8 mac.b, .int .u8 mac.c, .int .u8 mac.d, .int .u8 mac.e, .int .u8 mac.f, .int .i64 2, .int .u32 77, .int .u32 0, .int .i64 seconds, .int .u32 0, .int .u32 0, .int .u32 0] 27)).drew) := (al bw2 _).drew
  have z4 := Blk.lt R2
  have z5 := Blk.lt hC2
  have O1' := Lib.hid O1; clear O1
  have HC1' := Lib.hid HC1; clear HC1
  have HR1' := Lib.hid HR1; clear HR1
  have Bw3 := Lib.hid bw3; clear bw3
  rename_i hHeld
  clear hHeld x0 x1 x2 x3 x4 x5 m1 e1 e2 X2 hM hC2 R2
  go_wp2_with (with_reducible refine wpList_load_blk rfl 27 11 rfl w2.heap.size 0 16 (by kernel_rfl) 27 _ (offL mac 5 yours seconds 2).cs O1'.out (by kernel_rfl) _ Try.underlying27 (by kernel_rfl) (by kernel_rfl) ?_)
  have ok1 := begin_ok newS newS_ok 0 5
  refine (hear_1ok b mac _ (offL mac 5 yours seconds 2) 1 0 _ HC1'.out ok1 (by decide) (by decide) rfl (show (5 : Int) = 5 % 4294967296 by decide) (m6_self mac) rfl rfl hy (show (77 : Int) ≠ 0 by decide)).mono ?_
  rintro e w3 ⟨v, rfl, ho, hC3, hg3⟩
  obtain ⟨q, rfl, _, _⟩ : Msg w3 _ v _ := ho
  have O3 := Blk.only O1'.out hg3 (by omega)
  have R3 := Blk.only HR1'.out hg3 (by omega)
  have bw4 := Bw3.out.trans (below_only hg3 (by omega) Bw3.out.size)
  have k9 : w3.cell? ⟨w2.heap.size, 9, none⟩ = some (.int .i64 2) := O3.cell 9
  have f9 := O3.frozen 9
  have O4 : Blk (w3.setCell ⟨w2.heap.size, 9, none⟩ (.int .i64 5)) w2.heap.size 27 (offL mac 5 yours seconds 5).cs.toArray := (O3.set_ 9 _).eq_ (by kernel_rfl)
  have gs : w3.grownBy (w3.setCell ⟨w2.heap.size, 9, none⟩ (.int .i64 5)) (some w2.heap.size) := only_setCell (p := ⟨w2.heap.size, 9, none⟩) (World.grownBy.refl _ _) (.inl rfl) _
  have HC4 : IsC (w3.setCell ⟨w2.heap.size, 9, none⟩ (.int .i64 5)) b mac (offerS (beginS newS 0 5) (offL mac 5 yours seconds 2) 1) := Blk.only hC3 gs (by omega)
  have R4 := Blk.only R3 gs (by omega)
  have bw5 := bw4.trans (below_only gs (by omega) bw4.size)
  have O4' := Lib.hid O4; clear O4
  have HC4' := Lib.hid HC4; clear HC4
  have R4' := Lib.hid R4; clear R4
  have Bw5 := Lib.hid bw5; clear bw5
  clear hg3 O3 R3 bw4 gs O1' HC1' HR1' Bw3 hC3
  go_wp2_with (with_reducible refine wpList_load_blk rfl 27 11 rfl w2.heap.size 0 16 (by kernel_rfl) 27 _ (offL mac 5 yours seconds 5).cs O4'.out (by kernel_rfl) _ Try.underlying27 (by kernel_rfl) (by kernel_rfl) ?_)
  have ok2 := offer_ok _ ok1 (offL mac 5 yours seconds 2) 1
  refine (hear_2b b mac _ (offL mac 5 yours seconds 5) 2 0 _ HC4'.out ok2 (by decide) (by decide) rfl (show (5 : Int) = 5 % 4294967296 by decide) (m6_self mac) rfl rfl rfl).mono ?_
  rintro e w5 ⟨v, rfl, hv, hC5, hg5⟩
  obtain rfl : v = .slice none 0 0 := hv
  have O5 := Blk.only O4'.out hg5 (by omega)
  have R5 := Blk.only R4'.out hg5 (by omega)
  have bw6 := Bw5.out.trans (below_only hg5 (by omega) Bw5.out.size)
  have hC5' : IsC w5 b mac (boundS mac yours seconds) := hC5
  clear O4' HC4' R4' Bw5 hg5 hC5 k9 f9
  go_wp2_with fail
  refine (hasMC b mac _ _ hC5').mono ?_
  rintro e w6 ⟨rfl, hb6⟩
  rw [show decide (3 ≤ (boundS mac yours seconds).st) = true from rfl]
  generalize leaseV (boundS mac yours seconds) = lv
  have O6 := O5.nx hb6
  have R6 := R5.nx hb6
  have C6 := hC5'.nx hb6
  have bw7 := nx bw6 hb6
  have Z7 := Lib.hid (show Blk (w6.alloc (.cells #[.int .i64 0, .int .u32 0, .int .u32 0, .int .u8 0, .int .u8 0, .int .u8 0, .int .u8 0, .int .u8 0, .int .u8 0, .int .i64 0, .int .u32 0, .int .u32 0, .int .i64 0, .int .u32 0, .int .u32 0, .int .u32 0] 27)) w6.heap.size 27 zeroL.cs.toArray from Blk.new _ _ _)
  have O7 := Lib.hid (O6.alloc (.cells #[.int .i64 0, .int .u32 0, .int .u32 0, .int .u8 0, .int .u8 0, .int .u8 0, .int .u8 0, .int .u8 0, .int .u8 0, .int .i64 0, .int .u32 0, .int .u32 0, .int .i64 0, .int .u32 0, .int .u32 0, .int .u32 0] 27))
  have R7 := Lib.hid (R6.alloc (.cells #[.int .i64 0, .int .u32 0, .int .u32 0, .int .u8 0, .int .u8 0, .int .u8 0, .int .u8 0, .int .u8 0, .int .u8 0, .int .i64 0, .int .u32 0, .int .u32 0, .int .i64 0, .int .u32 0, .int .u32 0, .int .u32 0] 27))
  have C7 := Lib.hid (Blk.alloc C6 (.cells #[.int .i64 0, .int .u32 0, .int .u32 0, .int .u8 0, .int .u8 0, .int .u8 0, .int .u8 0, .int .u8 0, .int .u8 0, .int .i64 0, .int .u32 0, .int .u32 0, .int .i64 0, .int .u32 0, .int .u32 0, .int .u32 0] 27))
  have Bw8 := Lib.hid (al bw7 (.cells #[.int .i64 0, .int .u32 0, .int .u32 0, .int .u8 0, .int .u8 0, .int .u8 0, .int .u8 0, .int .u8 0, .int .u8 0, .int .i64 0, .int .u32 0, .int .u32 0, .int .i64 0, .int .u32 0, .int .u32 0, .int .u32 0] 27))
  have zz : w5.heap.size ≤ w6.heap.size := hb6.size
  have z8 := Blk.lt O5
  have z9 := Blk.lt hC5'
  clear O5 R5 bw6 hC5' hb6 O6 R6 C6 bw7
  go_wp2_with ((with_reducible refine wpList_store_blk rfl 27 12 43 rfl w6.heap.size 0 lv.cs (by kernel_rfl) (by kernel_rfl) 27 zeroL.cs Z7.out (by rw [Ls.len, Ls.len]; decide) (by kernel_rfl) lv.one ?_); intro w8 hB8 g8)
  have O8 := Blk.only O7.out g8 (by omega)
  have R8 := Blk.only R7.out g8 (by omega)
  have C8 := Blk.only C7.out g8 (by omega)
  have bw9 := Bw8.out.trans (below_only g8 (by have := Bw8.out.size; simp at this; omega) Bw8.out.size)
  clear O7 R7 C7 Bw8 Z7 hB8 g8
  have d0 : w8.cell? ⟨w2.heap.size, 0, none⟩ = some (.int .i64 2) := O8.cell 0
  have d1 : w8.cell? ⟨w2.heap.size, 1, none⟩ = some (.int .u32 5) := O8.cell 1
  have d2 : w8.cell? ⟨w2.heap.size, 2, none⟩ = some (.int .u32 yours) := O8.cell 2
  have d3 : w8.cell? ⟨w2.heap.size, 3, none⟩ = some (.int .u8 mac.a) := O8.cell 3
  have d4 : w8.cell? ⟨w2.heap.size, 4, none⟩ = some (.int .u8 mac.b) := O8.cell 4
  have d5 : w8.cell? ⟨w2.heap.size, 5, none⟩ = some (.int .u8 mac.c) := O8.cell 5
  have d6 : w8.cell? ⟨w2.heap.size, 6, none⟩ = some (.int .u8 mac.d) := O8.cell 6
  have d7 : w8.cell? ⟨w2.heap.size, 7, none⟩ = some (.int .u8 mac.e) := O8.cell 7
  have d8 : w8.cell? ⟨w2.heap.size, 8, none⟩ = some (.int .u8 mac.f) := O8.cell 8
  have d9 : w8.cell? ⟨w2.heap.size, 9, none⟩ = some (.int .i64 5) := O8.cell 9
  have d10 : w8.cell? ⟨w2.heap.size, 10, none⟩ = some (.int .u32 77) := O8.cell 10
  have d11 : w8.cell? ⟨w2.heap.size, 11, none⟩ = some (.int .u32 0) := O8.cell 11
  have d12 : w8.cell? ⟨w2.heap.size, 12, none⟩ = some (.int .i64 seconds) := O8.cell 12
  have d13 : w8.cell? ⟨w2.heap.size, 13, none⟩ = some (.int .u32 0) := O8.cell 13
  have d14 : w8.cell? ⟨w2.heap.size, 14, none⟩ = some (.int .u32 0) := O8.cell 14
  have d15 : w8.cell? ⟨w2.heap.size, 15, none⟩ = some (.int .u32 0) := O8.cell 15
  have r0 : w8.cell? ⟨w.heap.size + 1, 0, none⟩ = some (.int .i64 0) := R8.cell 0
  have f0 := R8.frozen 0
  have r1 : w8.cell? ⟨w.heap.size + 1, 1, none⟩ = some (.int .u32 0) := R8.cell 1
  have f1 := R8.frozen 1
  have r2 : w8.cell? ⟨w.heap.size + 1, 2, none⟩ = some (.int .u32 0) := R8.cell 2
  have f2 := R8.frozen 2
  have r3 : w8.cell? ⟨w.heap.size + 1, 3, none⟩ = some (.int .u8 0) := R8.cell 3
  have f3 := R8.frozen 3
  have r4 : w8.cell? ⟨w.heap.size + 1, 4, none⟩ = some (.int .u8 0) := R8.cell 4
  have f4 := R8.frozen 4
  have r5 : w8.cell? ⟨w.heap.size + 1, 5, none⟩ = some (.int .u8 0) := R8.cell 5
  have f5 := R8.frozen 5
  have r6 : w8.cell? ⟨w.heap.size + 1, 6, none⟩ = some (.int .u8 0) := R8.cell 6
  have f6 := R8.frozen 6
  have r7 : w8.cell? ⟨w.heap.size + 1, 7, none⟩ = some (.int .u8 0) := R8.cell 7
  have f7 := R8.frozen 7
  have r8 : w8.cell? ⟨w.heap.size + 1, 8, none⟩ = some (.int .u8 0) := R8.cell 8
  have f8 := R8.frozen 8
  have r9 : w8.cell? ⟨w.heap.size + 1, 9, none⟩ = some (.int .i64 0) := R8.cell 9
  have f9 := R8.frozen 9
  have r10 : w8.cell? ⟨w.heap.size + 1, 10, none⟩ = some (.int .u32 0) := R8.cell 10
  have f10 := R8.frozen 10
  have r11 : w8.cell? ⟨w.heap.size + 1, 11, none⟩ = some (.int .u32 0) := R8.cell 11
  have f11 := R8.frozen 11
  have r12 : w8.cell? ⟨w.heap.size + 1, 12, none⟩ = some (.int .i64 0) := R8.cell 12
  have f12 := R8.frozen 12
  have r13 : w8.cell? ⟨w.heap.size + 1, 13, none⟩ = some (.int .u32 0) := R8.cell 13
  have f13 := R8.frozen 13
  have r14 : w8.cell? ⟨w.heap.size + 1, 14, none⟩ = some (.int .u32 0) := R8.cell 14
  have f14 := R8.frozen 14
  have r15 : w8.cell? ⟨w.heap.size + 1, 15, none⟩ = some (.int .u32 0) := R8.cell 15
  have f15 := R8.frozen 15
  have n1 : w2.heap.size ≠ w.heap.size + 1 := by omega
  have n2 : w.heap.size + 1 ≠ w2.heap.size := by omega
  have HB10 : Hid (Blk ((((((((((((((((w8.setCell ⟨w.heap.size + 1, 0, none⟩ (.int .i64 2)).setCell ⟨w.heap.size + 1, 1, none⟩ (.int .u32 5)).setCell ⟨w.heap.size + 1, 2, none⟩ (.int .u32 yours)).setCell ⟨w.heap.size + 1, 3, none⟩ (.int .u8 mac.a)).setCell ⟨w.heap.size + 1, 4, none⟩ (.int .u8 mac.b)).setCell ⟨w.heap.size + 1, 5, none⟩ (.int .u8 mac.c)).setCell ⟨w.heap.size + 1, 6, none⟩ (.int .u8 mac.d)).setCell ⟨w.heap.size + 1, 7, none⟩ (.int .u8 mac.e)).setCell ⟨w.heap.size + 1, 8, none⟩ (.int .u8 mac.f)).setCell ⟨w.heap.size + 1, 9, none⟩ (.int .i64 5)).setCell ⟨w.heap.size + 1, 10, none⟩ (.int .u32 77)).setCell ⟨w.heap.size + 1, 11, none⟩ (.int .u32 0)).setCell ⟨w.heap.size + 1, 12, none⟩ (.int .i64 seconds)).setCell ⟨w.heap.size + 1, 13, none⟩ (.int .u32 0)).setCell ⟨w.heap.size + 1, 14, none⟩ (.int .u32 0)).setCell ⟨w.heap.size + 1, 15, none⟩ (.int .u32 0)) (w.heap.size + 1) 27 (offL mac 5 yours seconds 5).cs.toArray) := (((((((((((((((((R8).set_ 0 (.int .i64 2)).set_ 1 (.int .u32 5)).set_ 2 (.int .u32 yours)).set_ 3 (.int .u8 mac.a)).set_ 4 (.int .u8 mac.b)).set_ 5 (.int .u8 mac.c)).set_ 6 (.int .u8 mac.d)).set_ 7 (.int .u8 mac.e)).set_ 8 (.int .u8 mac.f)).set_ 9 (.int .i64 5)).set_ 10 (.int .u32 77)).set_ 11 (.int .u32 0)).set_ 12 (.int .i64 seconds)).set_ 13 (.int .u32 0)).set_ 14 (.int .u32 0)).set_ 15 (.int .u32 0)).eq_ (by kernel_rfl)
  have G10 : Hid (w8.grownBy ((((((((((((((((w8.setCell ⟨w.heap.size + 1, 0, none⟩ (.int .i64 2)).setCell ⟨w.heap.size + 1, 1, none⟩ (.int .u32 5)).setCell ⟨w.heap.size + 1, 2, none⟩ (.int .u32 yours)).setCell ⟨w.heap.size + 1, 3, none⟩ (.int .u8 mac.a)).setCell ⟨w.heap.size + 1, 4, none⟩ (.int .u8 mac.b)).setCell ⟨w.heap.size + 1, 5, none⟩ (.int .u8 mac.c)).setCell ⟨w.heap.size + 1, 6, none⟩ (.int .u8 mac.d)).setCell ⟨w.heap.size + 1, 7, none⟩ (.int .u8 mac.e)).setCell ⟨w.heap.size + 1, 8, none⟩ (.int .u8 mac.f)).setCell ⟨w.heap.size + 1, 9, none⟩ (.int .i64 5)).setCell ⟨w.heap.size + 1, 10, none⟩ (.int .u32 77)).setCell ⟨w.heap.size + 1, 11, none⟩ (.int .u32 0)).setCell ⟨w.heap.size + 1, 12, none⟩ (.int .i64 seconds)).setCell ⟨w.heap.size + 1, 13, none⟩ (.int .u32 0)).setCell ⟨w.heap.size + 1, 14, none⟩ (.int .u32 0)).setCell ⟨w.heap.size + 1, 15, none⟩ (.int .u32 0)) (some (w.heap.size + 1))) := only_setCell (p := ⟨w.heap.size + 1, 15, none⟩) (only_setCell (p := ⟨w.heap.size + 1, 14, none⟩) (only_setCell (p := ⟨w.heap.size + 1, 13, none⟩) (only_setCell (p := ⟨w.heap.size + 1, 12, none⟩) (only_setCell (p := ⟨w.heap.size + 1, 11, none⟩) (only_setCell (p := ⟨w.heap.size + 1, 10, none⟩) (only_setCell (p := ⟨w.heap.size + 1, 9, none⟩) (only_setCell (p := ⟨w.heap.size + 1, 8, none⟩) (only_setCell (p := ⟨w.heap.size + 1, 7, none⟩) (only_setCell (p := ⟨w.heap.size + 1, 6, none⟩) (only_setCell (p := ⟨w.heap.size + 1, 5, none⟩) (only_setCell (p := ⟨w.heap.size + 1, 4, none⟩) (only_setCell (p := ⟨w.heap.size + 1, 3, none⟩) (only_setCell (p := ⟨w.heap.size + 1, 2, none⟩) (only_setCell (p := ⟨w.heap.size + 1, 1, none⟩) (only_setCell (p := ⟨w.heap.size + 1, 0, none⟩) (World.grownBy.refl _ _) (.inl rfl) _) (.inl rfl) _) (.inl rfl) _) (.inl rfl) _) (.inl rfl) _) (.inl rfl) _) (.inl rfl) _) (.inl rfl) _) (.inl rfl) _) (.inl rfl) _) (.inl rfl) _) (.inl rfl) _) (.inl rfl) _) (.inl rfl) _) (.inl rfl) _) (.inl rfl) _
  have C10 := Lib.hid C8; clear C8
  have Bw9 := Lib.hid bw9; clear bw9
  clear R8 O8
  go_region_held3 (fun w' => w'.cell? ⟨w2.heap.size, 0, none⟩ = some (.int .i64 2) ∧ w'.cell? ⟨w2.heap.size, 1, none⟩ = some (.int .u32 5) ∧ w'.cell? ⟨w2.heap.size, 2, none⟩ = some (.int .u32 yours) ∧ w'.cell? ⟨w2.heap.size, 3, none⟩ = some (.int .u8 mac.a) ∧ w'.cell? ⟨w2.heap.size, 4, none⟩ = some (.int .u8 mac.b) ∧ w'.cell? ⟨w2.heap.size, 5, none⟩ = some (.int .u8 mac.c) ∧ w'.cell? ⟨w2.heap.size, 6, none⟩ = some (.int .u8 mac.d) ∧ w'.cell? ⟨w2.heap.size, 7, none⟩ = some (.int .u8 mac.e) ∧ w'.cell? ⟨w2.heap.size, 8, none⟩ = some (.int .u8 mac.f) ∧ w'.cell? ⟨w2.heap.size, 9, none⟩ = some (.int .i64 5) ∧ w'.cell? ⟨w2.heap.size, 10, none⟩ = some (.int .u32 77) ∧ w'.cell? ⟨w2.heap.size, 11, none⟩ = some (.int .u32 0) ∧ w'.cell? ⟨w2.heap.size, 12, none⟩ = some (.int .i64 seconds) ∧ w'.cell? ⟨w2.heap.size, 13, none⟩ = some (.int .u32 0) ∧ w'.cell? ⟨w2.heap.size, 14, none⟩ = some (.int .u32 0) ∧ w'.cell? ⟨w2.heap.size, 15, none⟩ = some (.int .u32 0)) (go_keep) (fail)
  rename_i hHeld
  clear hHeld d0 r0 f0 d1 r1 f1 d2 r2 f2 d3 r3 f3 d4 r4 f4 d5 r5 f5 d6 r6 f6 d7 r7 f7 d8 r8 f8 d9 r9 f9 d10 r10 f10 d11 r11 f11 d12 r12 f12 d13 r13 f13 d14 r14 f14 d15 r15 f15 n1 n2
  go_wp2_with fail
  refine bodyPost_ret (v := .tuple #[.pointer (some ⟨b, 0, none⟩), .agg (offL mac 5 yours seconds 5).cs.toArray, .bool true]) ((run_results_tct rfl _ _ _ _ _ _ _ rfl (Blk.drew HB10.out) Try.underlying27 rfl (by kernel_rfl)).trans rfl) rfl ⟨b, rfl, by omega, Blk.only C10.out (only_drew G10.out) (by omega), (Bw9.out.trans (below_only G10.out (by omega) Bw9.out.size)).drew⟩
end Go.Proofs.Ytgdlghieifadhaa
