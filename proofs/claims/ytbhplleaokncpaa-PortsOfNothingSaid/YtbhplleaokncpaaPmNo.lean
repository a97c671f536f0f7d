/-
  Ports of nothing give none. No conditions.
-/
import Derived.Test.YtbhplleaokncpaaPmK
import Derived.Test.YtbhplleaokncpaaLaw
set_option linter.unusedVariables false
namespace Go.Proofs.Ytbhplleaokncpaa
open Go.ChangeShapes Go.WideShapes Go.ChangeAt Go.RowKit

theorem mayN (id : Int) (w : World) : Calls Try.prog 30 #[.pointer none, .int .i64 id] w fun e w' => e = .returned (.int .i64 1) ∧ Below w.heap.size w w' := by
  go_enter Try.func30, Try.ntmps30
  go_wp2
  go_ret
  exact ⟨rfl, rf _⟩
theorem bindN (id a port : Int) (w : World) : Calls Try.prog 13 #[.pointer none, .int .i64 id, .int .u32 a, .int .i64 port] w fun e w' => e = .returned (.int .i64 1) ∧ Below w.heap.size w w' := by
  by_cases h1 : port < 1
  · go_enter Try.func13, Try.ntmps13
    go_wp2
    go_ret
    exact ⟨rfl, rf _⟩
  by_cases h2 : 65535 < port
  · go_enter Try.func13, Try.ntmps13
    go_wp2
    go_ret
    exact ⟨rfl, rf _⟩
  go_enter Try.func13, Try.ntmps13
  go_wp2_with fail
  refine (mayN id _).mono ?_
  rintro e w1 ⟨rfl, hb⟩
  go_wp2
  go_ret
  exact ⟨rfl, hb⟩
theorem pickN (id a draw : Int) (w : World) : Calls Try.prog 15 #[.pointer none, .int .i64 id, .int .u32 a, .int .i64 draw] w fun e w' => e = .returned (.tuple #[.int .i64 0, .int .i64 1]) ∧ Below w.heap.size w w' := by
  go_enter Try.func15, Try.ntmps15
  go_wp2_with fail
  refine (mayN id _).mono ?_
  rintro e w1 ⟨rfl, hb⟩
  go_wp2
  go_ret2
  exact ⟨rfl, hb⟩
theorem conN (id a to : Int) (w : World) : Calls Try.prog 17 #[.pointer none, .int .i64 id, .int .u32 a, .int .i64 to] w fun e w' => e = .returned (.int .i64 1) ∧ Below w.heap.size w w' := by
  go_enter Try.func17, Try.ntmps17
  go_wp2
  go_ret
  exact ⟨rfl, rf _⟩
theorem delN (id : Int) (w : World) : Calls Try.prog 18 #[.pointer none, .int .i64 id] w fun e w' => e = .returned (.bool false) ∧ Below w.heap.size w w' := by
  go_enter Try.func18, Try.ntmps18
  go_wp2
  go_ret
  exact ⟨rfl, rf _⟩
theorem findN (d : Dg) (w : World) : Calls Try.prog 16 #[.pointer none, .agg d.cs.toArray] w fun e w' => e = .returned (.tuple #[.int .i64 (-1), .bool false]) ∧ Below w.heap.size w w' := by
  go_enter Try.func16, Try.ntmps16
  go_wp2
  go_ret2
  exact ⟨rfl, al (al (rf _) _) _⟩
set_option maxRecDepth 100000 in
set_option maxHeartbeats 1600000 in
theorem portsOfNothing_walk (id a port : Int) (w : World) : Calls Try.prog 7 #[.int .i64 id, .int .u32 a, .int .i64 port] w fun e w' => e = .returned (.bool true) ∧ Below w.heap.size w w' := by
  go_enter Try.func7, Try.ntmps7
  go_wp2_with fail
  refine (pickN id a port _).mono ?_
  rintro e w1 ⟨rfl, hb1⟩
  have B1 := Lib.hid (hb1); clear hb1
  go_wp2_with fail
  refine (findN (dg 0 0 a port) _).mono ?_
  rintro e w2 ⟨rfl, hb2⟩
  have B2 := Lib.hid (nx B1.out hb2); clear hb2
  go_wp2_with fail
  refine (bindN id a port _).mono ?_
  rintro e w3 ⟨rfl, hb3⟩
  have B3 := Lib.hid (nx B2.out hb3); clear hb3
  go_wp2_with fail
  refine (conN id a port _).mono ?_
  rintro e w4 ⟨rfl, hb4⟩
  have B4 := Lib.hid (nx B3.out hb4); clear hb4
  go_wp2_with fail
  refine (delN id _).mono ?_
  rintro e w5 ⟨rfl, hb5⟩
  have B5 := Lib.hid (nx B4.out hb5); clear hb5
  go_wp2_with fail
  refine (known _).mono ?_
  rintro e w9 ⟨rfl, hb9⟩
  go_wp2
  go_ret
  exact ⟨rfl, nx B5.out hb9⟩

set_option maxRecDepth 100000 in
theorem portsOfNothing_lifted (os : Os) (started : os.Started) (H : Type) (enc : TypeId × Value → H) :
    ReturnsInHanded {} Try.checked os 7 .any (Rows.portsOfNothingSpec.pre6 enc Try.prog Try.f7 Rows.portsOfNothingRow.domain false) (Rows.portsOfNothingSpec.post enc Try.prog Try.f7 false true false false) :=
  law_lift started (by kernel_rfl) Try.func7
    (ChangeSpec.witness6 (enc := enc) (C := Try.checked) false ⟨#[], #[.int .i64 0, .int .u32 0, .int .i64 0], []⟩ 8 (by kernel_rfl) (by kernel_rfl) (by kernel_rfl) (by kernel_rfl))
    rfl rfl Try.underlying4 (by kernel_rfl) (fun ds h => match ds, h with | [_, _, _], _ => rfl)
    (fun W base args ds p hval hA hsz => by
      rw [Try.params7] at hA hval
      obtain ⟨v0, v1, v2, d0, d1, d2, p0, p1, p2, rfl, rfl, rfl, h0, h1, h2⟩ := trodAll_three hA
      obtain ⟨n0, rfl, _, _, _⟩ := open_int Try.underlying3 (hval 0 3 v0 rfl rfl) h0
      obtain ⟨n1, rfl, _, _, _⟩ := open_int Try.underlying23 (hval 1 23 v1 rfl rfl) h1
      obtain ⟨n2, rfl, _, _, _⟩ := open_int Try.underlying3 (hval 2 3 v2 rfl rfl) h2
      exact portsOfNothing_walk n0 n1 n2 W)

theorem portsOfNothing_holds : Rows.PortsOfNothingSaid :=
  OpenClaim.holds_of_wide 7 Try.f7 rfl rfl rfl rfl rfl rfl rfl ⟨rfl, rfl, rfl, rfl, rfl⟩ rfl rfl rfl rfl rfl (by kernel_rfl) Try.func7 (by kernel_rfl)
    (of_decide_eq_true (by kernel_rfl)) (by unfold Func.isWrapper; rw [if_neg (of_decide_eq_false (by kernel_rfl))]; exact ⟨rfl, rfl⟩)
    (fun os started H enc _ => portsOfNothing_lifted os started H enc)
end Go.Proofs.Ytbhplleaokncpaa
