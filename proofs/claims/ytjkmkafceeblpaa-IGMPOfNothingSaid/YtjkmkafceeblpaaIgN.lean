/-
  IGMPOfNothing: for every group, message and tick the law 'a nil Host has no group' returns true. No condition.
-/
import Derived.Test.YtjkmkafceeblpaaIg3
import Derived.Test.YtjkmkafceeblpaaIgA
set_option linter.unusedVariables false
namespace Go.Proofs.Ytjkmkafceeblpaa
open Go.ChangeShapes Go.WideShapes Go.ChangeAt Go.RowKit

set_option maxHeartbeats 1600000 in
theorem iGMPOfNothing_walk (a ty mx gr now : Int) (w : World) (g0 : 0 ≤ gr) (g1 : gr ≤ 4294967295) :
    Calls Try.prog 8 #[.int .u32 a, .agg #[.int .i64 ty, .int .i64 mx, .int .u32 gr], .int .i64 now] w fun e w' => e = .returned (.bool true) ∧ Below w.heap.size w w' := by
  have BX := Lib.hid (Blk.new w 27 #[.int .i64 ty, .int .i64 mx, .int .u32 gr])
  go_enter Try.func8, Try.ntmps8
  go_wp2_with fail
  refine (joinNil _ a now 0).mono ?_
  rintro e w1 ⟨rfl, b1⟩
  go_wp2_with fail
  refine (leaveNil _ a).mono ?_
  rintro e w2 ⟨rfl, b2⟩
  have B2 := Lib.hid (nx (nx (al (rf w) _) b1) b2)
  have BX2 := Lib.hid ((BX.out.nx b1).nx b2)
  have c0 : w2.cell? ⟨w.heap.size, 0, none⟩ = some (.int .i64 ty) := BX2.out.cell 0
  have c1 : w2.cell? ⟨w.heap.size, 1, none⟩ = some (.int .i64 mx) := BX2.out.cell 1
  have c2 : w2.cell? ⟨w.heap.size, 2, none⟩ = some (.int .u32 gr) := BX2.out.cell 2
  clear b1 b2
  go_wp2_with fail
  refine (hearNil _ ty mx gr now 0 g0 g1).mono ?_
  rintro e w3 ⟨rfl, b3⟩
  clear c0 c1 c2
  go_wp2_with fail
  refine (tickNil _ now).mono ?_
  rintro e w4 ⟨rfl, b4⟩
  go_wp2_with fail
  refine (groupsNil _).mono ?_
  rintro e w5 ⟨rfl, b5⟩
  go_wp2_with fail
  refine (known _).mono ?_
  rintro e w6 ⟨rfl, b6⟩
  go_wp2
  go_ret
  exact ⟨rfl, nx (nx (nx (nx B2.out b3) b4) b5) b6⟩
set_option maxRecDepth 100000 in
theorem iGMPOfNothing_lifted (os : Os) (started : os.Started) (H : Type) (enc : TypeId × Value → H) :
    ReturnsInHanded {} Try.checked os 8 .any (Rows.iGMPOfNothingSpec.pre6 enc Try.prog Try.f8 Rows.iGMPOfNothingRow.domain false) (Rows.iGMPOfNothingSpec.post enc Try.prog Try.f8 false true false false) :=
  law_lift started (by kernel_rfl) Try.func8
    (ChangeSpec.witness6 (enc := enc) (C := Try.checked) false ⟨#[], #[.int .u32 0, .agg #[.int .i64 0, .int .i64 0, .int .u32 0], .int .i64 0], []⟩ 8 (by kernel_rfl) (by kernel_rfl) (by kernel_rfl) (by kernel_rfl))
    rfl rfl Try.underlying4 (by kernel_rfl) (fun ds h => match ds, h with | [_, _, _], _ => rfl)
    (fun W base args ds p hval hA hsz => by
      rw [Try.params8] at hA hval
      have hsz' := hsz
      rw [Try.params8] at hsz'
      obtain ⟨v0, v1, v2, d0, d1, d2, p0, p1, p2, rfl, rfl, rfl, h0, h1, h2⟩ := trodAll_three hA
      obtain ⟨a, rfl, _, _⟩ := open_addrx (hval 0 25 v0 rfl rfl) h0
      obtain ⟨ty, mx, gr, rfl, g0, g1⟩ := open_igmp (hval 1 27 v1 rfl rfl) h1
      obtain ⟨n, rfl, _, _⟩ := open_i64x (hval 2 3 v2 rfl rfl) h2
      exact iGMPOfNothing_walk a ty mx gr n W g0 g1)
theorem iGMPOfNothing_holds : Rows.IGMPOfNothingSaid :=
  OpenClaim.holds_of_wide 8 Try.f8 rfl rfl rfl rfl rfl rfl rfl ⟨rfl, rfl, rfl, rfl, rfl⟩ rfl rfl rfl rfl rfl (by kernel_rfl) Try.func8 (by kernel_rfl)
    (of_decide_eq_true (by kernel_rfl)) (by unfold Func.isWrapper; rw [if_neg (of_decide_eq_false (by kernel_rfl))]; exact ⟨rfl, rfl⟩)
    (fun os started H enc _ => iGMPOfNothing_lifted os started H enc)
end Go.Proofs.Ytjkmkafceeblpaa
