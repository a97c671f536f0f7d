/-
  ResolveOfNothing: for every text, datagram and tick the law 'a nil Resolver finds nothing' returns true.
-/
import Derived.Test.YtpfkmmmlocmakaaDoorRvZ
set_option linter.unusedVariables false
namespace Go.Proofs.YtpfkmmmlocmakaaDoor
open Go.RowKit Go.Maps

theorem askNil (w : World) (s : ByteArray) (now draw : Int) : Calls Tryd.prog 11 #[.pointer none, .string s, .int .i64 now, .int .i64 draw] w fun e w' => e = .returned (.tuple #[.slice none 0 0, .slice none 0 0]) ∧ ∃ n, w' = w.drewN n := by
  go_enter Tryd.func11, Tryd.ntmps11
  go_wp2
  go_ret2
  exact ⟨rfl, 0, rfl⟩
theorem tickNil (w : World) (now draw : Int) : Calls Tryd.prog 12 #[.pointer none, .int .i64 now, .int .i64 draw] w fun e w' => e = .returned (.tuple #[.slice none 0 0, .slice none 0 0]) ∧ ∃ n, w' = w.drewN n := by
  go_enter Tryd.func12, Tryd.ntmps12
  go_wp2
  go_ret2
  exact ⟨rfl, 0, rfl⟩
theorem countNil (w : World) : Calls Tryd.prog 17 #[.pointer none] w fun e w' => e = .returned (.tuple #[.int .i64 0, .int .i64 0]) ∧ ∃ n, w' = w.drewN n := by
  go_enter Tryd.func17, Tryd.ntmps17
  go_wp2
  go_ret2
  exact ⟨rfl, 0, rfl⟩
theorem hearNil (w : World) (a b c d e : Value) (now draw : Int) : Calls Tryd.prog 16 #[.pointer none, .agg #[a, b, c, d, e], .int .i64 now, .int .i64 draw] w fun e w' => e = .returned (.tuple #[.slice none 0 0, .slice none 0 0]) ∧ Below w.heap.size w w' := by
  have B0 := Lib.hid (al (rf w) (.cells #[a, b, c, d, e] 36))
  go_enter Tryd.func16, Tryd.ntmps16
  go_wp2
  go_quiet (fail)
  go_wp2
  go_ret2
  exact ⟨rfl, dn B0.out _⟩
set_option maxRecDepth 100000 in
set_option maxHeartbeats 1600000 in
theorem ofNothing_walk (w : World) (s : ByteArray) (fr frp to_ top now : Int) (A : Option Addr) (n c : Nat) (hm : MaxL w) (hpos : 0 < w.heap.size) :
    Calls Tryd.prog 8 #[.string s, .agg #[.int .u32 fr, .int .i64 frp, .int .u32 to_, .int .i64 top, .slice A n c], .int .i64 now] w fun e w' => e = .returned (.bool true) ∧ Below w.heap.size w w' := by
  have X0 := Lib.hid (Blk.new w 36 #[.int .u32 fr, .int .i64 frp, .int .u32 to_, .int .i64 top, .slice A n c])
  have B0 := Lib.hid (al (rf w) (.cells #[.int .u32 fr, .int .i64 frp, .int .u32 to_, .int .i64 top, .slice A n c] 36))
  have HM := Lib.hid hm
  clear hm
  by_cases hbig : (20000 : Int) < wrap64 ((s.size : Int) + (n : Int))
  · go_enter Tryd.func8, Tryd.ntmps8
    go_wp2
    go_ret
    exact ⟨rfl, B0.out⟩
  · have x0 := X0.out.cell 0
    have x1 := X0.out.cell 1
    have x2 := X0.out.cell 2
    have x3 := X0.out.cell 3
    have x4 := X0.out.cell 4
    simp only [List.getElem?_toArray, List.getElem?_cons_zero, List.getElem?_cons_succ] at x0 x1 x2 x3 x4
    go_enter Tryd.func8, Tryd.ntmps8
    go_wp2_with fail
    generalize (w.alloc (.cells #[.int .u32 fr, .int .i64 frp, .int .u32 to_, .int .i64 top, .slice A n c] 36)) = w1 at X0 B0 x0 x1 x2 x3 x4 ⊢
    refine (askNil w1 s now 0).mono ?_
    rintro e w2 ⟨rfl, n2, rfl⟩
    go_wp2_with fail
    refine (hearNil _ _ _ _ _ _ now 0).mono ?_
    rintro e w3 ⟨rfl, b3⟩
    have B3 := Lib.hid (nx (dn B0.out n2) b3)
    clear b3 x0 x1 x2 x3 x4
    go_wp2_with fail
    refine (tickNil _ now 0).mono ?_
    rintro e w4 ⟨rfl, n4, rfl⟩
    go_wp2_with fail
    refine (countNil _).mono ?_
    rintro e w5 ⟨rfl, n5, rfl⟩
    have B5 := Lib.hid (dn B3.out (n4 + n5))
    go_wp2_with fail
    refine (knownR _ (HM.out.below B5.out hpos) (by have := B5.out.size; omega)).mono ?_
    rintro e w6 ⟨rfl, b6⟩
    have B6 := Lib.hid (nx B5.out b6)
    clear b6
    go_wp2
    go_ret
    exact ⟨rfl, B6.out⟩
end Go.Proofs.YtpfkmmmlocmakaaDoor
