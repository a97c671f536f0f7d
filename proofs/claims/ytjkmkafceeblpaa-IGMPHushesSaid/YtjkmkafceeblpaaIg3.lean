/-
  Groups: a report that is heard; what a nil Host does.
-/
import Derived.Test.YtjkmkafceeblpaaIg2
import Derived.Test.YtjkmkafceeblpaaIgE
set_option linter.unusedVariables false
namespace Go.Proofs.Ytjkmkafceeblpaa
open Go.RowKit

-- a nil Host
theorem joinNil (w : World) (a now draw : Int) : Calls Try.prog 14 #[.pointer none, .int .u32 a, .int .i64 now, .int .i64 draw] w fun e w' => e = .returned (.tuple #[.slice none 0 0, .int .i64 1]) ∧ Below w.heap.size w w' := by
  go_enter Try.func14, Try.ntmps14
  go_wp2
  refine bodyPost_ret (results_tmp2 rfl _ _ _) rfl ?_
  exact ⟨rfl, rf w⟩
theorem joinBad (w : World) (h : Nat) (a now draw : Int) (ha : a < 3758096386 ∨ 4026531840 ≤ a) : Calls Try.prog 14 #[.pointer (some ⟨h, 0, none⟩), .int .u32 a, .int .i64 now, .int .i64 draw] w fun e w' => e = .returned (.tuple #[.slice none 0 0, .int .i64 1]) ∧ Below w.heap.size w w' := by
  by_cases h1 : a < 3758096386
  · clear ha
    go_enter Try.func14, Try.ntmps14
    go_wp2
    refine bodyPost_ret (results_tmp2 rfl _ _ _) rfl ?_
    exact ⟨rfl, rf w⟩
  · have h2 : 4026531840 ≤ a := by omega
    clear ha
    go_enter Try.func14, Try.ntmps14
    go_wp2
    refine bodyPost_ret (results_tmp2 rfl _ _ _) rfl ?_
    exact ⟨rfl, rf w⟩
theorem leaveNil (w : World) (a : Int) : Calls Try.prog 21 #[.pointer none, .int .u32 a] w fun e w' => e = .returned (.tuple #[.slice none 0 0, .int .i64 1]) ∧ Below w.heap.size w w' := by
  go_enter Try.func21, Try.ntmps21
  go_wp2
  refine bodyPost_ret (results_tmp2 rfl _ _ _) rfl ?_
  exact ⟨rfl, rf w⟩
theorem tickNil (w : World) (now : Int) : Calls Try.prog 15 #[.pointer none, .int .i64 now] w fun e w' => e = .returned (.slice none 0 0) ∧ Below w.heap.size w w' := by
  go_enter Try.func15, Try.ntmps15
  go_wp2
  go_ret
  exact ⟨rfl, rf w⟩
theorem groupsNil (w : World) : Calls Try.prog 22 #[.pointer none] w fun e w' => e = .returned (.slice none 0 0) ∧ Below w.heap.size w w' := by
  go_enter Try.func22, Try.ntmps22
  go_wp2
  go_ret
  exact ⟨rfl, rf w⟩
set_option maxHeartbeats 400000 in
theorem hearNil (w : World) (ty mx gr now draw : Int) (g0 : 0 ≤ gr) (g1 : gr ≤ 4294967295) : Calls Try.prog 16 #[.pointer none, .agg #[.int .i64 ty, .int .i64 mx, .int .u32 gr], .int .i64 now, .int .i64 draw] w fun e w' => e = .returned (.tuple #[]) ∧ Below w.heap.size w w' := by
  by_cases hb : ty < 0 ∨ 255 < ty ∨ mx < 0 ∨ 255 < mx
  · have HB := Lib.hid hb
    clear hb
    go_enter Try.func16, Try.ntmps16
    go_wp2_with fail
    refine (igEncBad _ ty mx gr HB.out).mono ?_
    rintro e w1 ⟨rfl, b1⟩
    go_wp2
    refine bodyPost_ret (results_none rfl _ _ _) rfl ?_
    exact ⟨rfl, nx (al (rf w) _) b1⟩
  · have HB := Lib.hid hb
    clear hb
    go_enter Try.func16, Try.ntmps16
    go_wp2_with fail
    refine (igEncOk _ ty mx gr (by have := HB.out; omega) (by have := HB.out; omega) (by have := HB.out; omega) (by have := HB.out; omega) g0 g1).mono ?_
    rintro e w1 ⟨A, c, rfl, _, _, b1⟩
    go_wp2
    refine bodyPost_ret (results_none rfl _ _ _) rfl ?_
    exact ⟨rfl, nx (al (rf w) _) b1⟩
set_option maxHeartbeats 1600000 in
theorem hear1 (w : World) (h g cap t : Nat) (a now draw x : Int) (ours : Bool) (o : One w h g cap a (some (t, x)) ours) (a0 : 0 ≤ a) (a1 : a ≤ 4294967295) :
    Calls Try.prog 16 #[.pointer (some ⟨h, 0, none⟩), .agg #[.int .i64 22, .int .i64 0, .int .u32 a], .int .i64 now, .int .i64 draw] w fun e w' => e = .returned (.tuple #[]) ∧ One w' h g cap a none false ∧ w.grownBy w' (some g) := by
  have HO := Lib.hid o
  clear o
  have BX := Lib.hid (Blk.new w 27 #[.int .i64 22, .int .i64 0, .int .u32 a])
  have B0 := Lib.hid (al (rf w) (.cells #[.int .i64 22, .int .i64 0, .int .u32 a] 27))
  go_enter Try.func16, Try.ntmps16
  go_wp2_with fail
  refine (igEncOk _ 22 0 a (by omega) (by omega) (by omega) (by omega) a0 a1).mono ?_
  rintro e w1 ⟨A, c, rfl, _, _, b1⟩
  have B1 := Lib.hid (nx B0.out b1)
  have BX1 := Lib.hid (BX.out.nx b1)
  have m2 : w1.cell? ⟨w.heap.size, 2, none⟩ = some (.int .u32 a) := BX1.out.cell 2
  clear b1
  go_wp2_with fail
  refine (find1 _ h g cap a _ ours (HO.out.nx B1.out)).mono ?_
  rintro e w2 ⟨rfl, b2⟩
  have B2 := Lib.hid (nx B1.out b2)
  have BX2 := Lib.hid (BX1.out.nx b2)
  have O2 := Lib.hid (HO.out.nx B2.out)
  have c0 := O2.out.hc
  obtain ⟨d0, d1, d2⟩ := O2.out.cells
  unfold tmP at d1
  have f1 := O2.out.fro 1
  have f2 := O2.out.fro 2
  have n0 : w2.cell? ⟨w.heap.size, 0, none⟩ = some (.int .i64 22) := BX2.out.cell 0
  clear m2 b2
  go_wp2
  go_region
  go_wp2
  go_end0
  exact ⟨rfl, (O2.out.set (o2 := false)).nx (rf _).drew, only_drew (only_setCell (p := ⟨g, 2, none⟩) (only_setCell (p := ⟨g, 1, none⟩) (only_of B2.out) (.inl rfl) _) (.inl rfl) _)⟩
end Go.Proofs.Ytjkmkafceeblpaa
