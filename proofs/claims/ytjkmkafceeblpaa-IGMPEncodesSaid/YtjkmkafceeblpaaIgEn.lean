/-
  IGMPEncodes: for every message the law 'a message is eight bytes that sum up to nothing, and read as it' returns true. No condition.
-/
import Derived.Test.YtjkmkafceeblpaaIgQ
import Derived.Test.YtjkmkafceeblpaaIg2
import Derived.Test.YtjkmkafceeblpaaIgA
import Derived.Test.YtjkmkafceeblpaaHelp10
set_option linter.unusedVariables false
namespace Go.Proofs.Ytjkmkafceeblpaa
open Go.ChangeShapes Go.WideShapes Go.ChangeAt Go.RowKit

set_option maxHeartbeats 1600000 in
theorem iGMPEncodes_bad (ty mx gr : Int) (w : World) (g0 : 0 ≤ gr) (g1 : gr ≤ 4294967295) (hb : ty < 0 ∨ 255 < ty ∨ mx < 0 ∨ 255 < mx) :
    Calls Try.prog 5 #[.agg #[.int .i64 ty, .int .i64 mx, .int .u32 gr]] w fun e w' => e = .returned (.bool true) ∧ Below w.heap.size w w' := by
  have HB := Lib.hid hb
  clear hb
  have BX := Lib.hid (Blk.new w 27 #[.int .i64 ty, .int .i64 mx, .int .u32 gr])
  have B0 := Lib.hid (al (rf w) (.cells #[.int .i64 ty, .int .i64 mx, .int .u32 gr] 27))
  go_enter Try.func5, Try.ntmps5
  go_wp2_with fail
  refine (igEncBad _ ty mx gr HB.out).mono ?_
  rintro e w1 ⟨rfl, b1⟩
  have c0 : w1.cell? ⟨w.heap.size, 0, none⟩ = some (.int .i64 ty) := (BX.out.nx b1).cell 0
  have c1 : w1.cell? ⟨w.heap.size, 1, none⟩ = some (.int .i64 mx) := (BX.out.nx b1).cell 1
  have c2 : w1.cell? ⟨w.heap.size, 2, none⟩ = some (.int .u32 gr) := (BX.out.nx b1).cell 2
  go_wp2_with fail
  refine (igREncBad _ ty mx gr HB.out).mono ?_
  rintro e w2 ⟨rfl, b2⟩
  clear c0 c1 c2
  go_wp2_with fail
  refine (same_ _ none none [] [] 0 0 0 0 (Bytes.nil _ _) (Bytes.nil _ _) rfl rfl (by simp) (by simp)).mono ?_
  rintro e w3 ⟨rfl, b3⟩
  rw [show (([] : List UInt8) == []) = true from rfl]
  go_wp2_with fail
  refine (known _).mono ?_
  rintro e w4 ⟨rfl, b4⟩
  go_wp2
  go_ret
  exact ⟨rfl, nx (nx (nx (nx B0.out b1) b2) b3) b4⟩
set_option maxHeartbeats 3200000 in
theorem iGMPEncodes_ok (ty mx gr : Int) (w : World) (t0 : 0 ≤ ty) (t1 : ty ≤ 255) (m0 : 0 ≤ mx) (m1 : mx ≤ 255) (g0 : 0 ≤ gr) (g1 : gr ≤ 4294967295) :
    Calls Try.prog 5 #[.agg #[.int .i64 ty, .int .i64 mx, .int .u32 gr]] w fun e w' => e = .returned (.bool true) ∧ Below w.heap.size w w' := by
  have BX := Lib.hid (Blk.new w 27 #[.int .i64 ty, .int .i64 mx, .int .u32 gr])
  have B0 := Lib.hid (al (rf w) (.cells #[.int .i64 ty, .int .i64 mx, .int .u32 gr] 27))
  have HS := Lib.hid (ig_sum ty mx gr t0 t1 m0 m1 g0 g1)
  obtain ⟨p1, p2, p3⟩ := ig_parts ty mx gr t0 t1 m0 m1 g0 g1
  have P1 := Lib.hid p1; have P2 := Lib.hid p2; have P3 := Lib.hid p3
  clear p1 p2 p3
  have hq := eql_igmp ty mx gr
  go_enter Try.func5, Try.ntmps5
  go_wp2_with fail
  refine (igEncOk _ ty mx gr t0 t1 m0 m1 g0 g1).mono ?_
  rintro e w1 ⟨A1, k1, rfl, by1, _, b1⟩
  have c0 : w1.cell? ⟨w.heap.size, 0, none⟩ = some (.int .i64 ty) := (BX.out.nx b1).cell 0
  have c1 : w1.cell? ⟨w.heap.size, 1, none⟩ = some (.int .i64 mx) := (BX.out.nx b1).cell 1
  have c2 : w1.cell? ⟨w.heap.size, 2, none⟩ = some (.int .u32 gr) := (BX.out.nx b1).cell 2
  go_wp2_with fail
  refine (igREncOk _ ty mx gr t0 t1 m0 m1 g0 g1).mono ?_
  rintro e w2 ⟨A2, k2, rfl, by2, b2⟩
  clear c0 c1 c2
  have BY1 := Lib.hid (by1.nx b2)
  clear by1
  go_wp2_with fail
  refine (same_ _ A1 A2 (igL ty mx gr) (igL ty mx gr) 8 8 k1 k2 BY1.out by2 (igL_len _ _ _).symm (igL_len _ _ _).symm (by rw [igL_len]; omega) (by rw [igL_len]; omega)).mono ?_
  rintro e w3 ⟨rfl, b3⟩
  rw [show (igL ty mx gr == igL ty mx gr) = true from beq_self_eq_true _]
  have D := igDecOk A1 (igL ty mx gr) k1 w3 (BY1.out.nx b3) (by rw [igL_len]; omega) (by rw [igL_len]; omega) HS.out _ _ _ P1 P2 P3
  rw [igL_len, Int.toNat_of_nonneg t0, Int.toNat_of_nonneg m0, Int.toNat_of_nonneg g0] at D
  have HD := Lib.hid D
  clear D by2
  go_wp2_with fail
  refine HD.out.mono ?_
  rintro e w4 ⟨rfl, b4⟩
  have BY4 := Lib.hid ((BY1.out.nx b3).nx b4)
  have SU := Lib.hid (fun W h => sumC A1 k1 (igL ty mx gr) 8 W h (igL_len _ _ _).symm (by rw [igL_len]; omega))
  have W4 : Hid (Below w.heap.size w w4) := nx (nx (nx (nx B0.out b1) b2) b3) b4
  have X4 : Hid (Blk w4 w.heap.size 27 #[.int .i64 ty, .int .i64 mx, .int .u32 gr]) := (((BX.out.nx b1).nx b2).nx b3).nx b4
  clear b1 b2 b3 b4
  have d0 : (w4.alloc (.cells #[.int .i64 ty, .int .i64 mx, .int .u32 gr] 27)).cell? ⟨w.heap.size, 0, none⟩ = some (.int .i64 ty) := (X4.out.alloc _).cell 0
  have d1 : (w4.alloc (.cells #[.int .i64 ty, .int .i64 mx, .int .u32 gr] 27)).cell? ⟨w.heap.size, 1, none⟩ = some (.int .i64 mx) := (X4.out.alloc _).cell 1
  have d2 : (w4.alloc (.cells #[.int .i64 ty, .int .i64 mx, .int .u32 gr] 27)).cell? ⟨w.heap.size, 2, none⟩ = some (.int .u32 gr) := (X4.out.alloc _).cell 2
  go_wp2_with fail
  refine (SU.out _ (BY4.out.al _)).mono ?_
  rintro e w5 ⟨rfl, rfl⟩
  rw [HS.out]
  go_wp2_with fail
  refine (known _).mono ?_
  rintro e w6 ⟨rfl, b6⟩
  go_wp2
  go_ret
  exact ⟨rfl, nx (al W4.out _) b6⟩
theorem iGMPEncodes_walk (ty mx gr : Int) (w : World) (g0 : 0 ≤ gr) (g1 : gr ≤ 4294967295) :
    Calls Try.prog 5 #[.agg #[.int .i64 ty, .int .i64 mx, .int .u32 gr]] w fun e w' => e = .returned (.bool true) ∧ Below w.heap.size w w' := by
  by_cases h : ty < 0 ∨ 255 < ty ∨ mx < 0 ∨ 255 < mx
  · exact iGMPEncodes_bad ty mx gr w g0 g1 h
  · exact iGMPEncodes_ok ty mx gr w (by omega) (by omega) (by omega) (by omega) g0 g1
set_option maxRecDepth 100000 in
theorem iGMPEncodes_lifted (os : Os) (started : os.Started) (H : Type) (enc : TypeId × Value → H) :
    ReturnsInHanded {} Try.checked os 5 .any (Rows.iGMPEncodesSpec.pre6 enc Try.prog Try.f5 Rows.iGMPEncodesRow.domain false) (Rows.iGMPEncodesSpec.post enc Try.prog Try.f5 false true false false) :=
  law_lift started (by kernel_rfl) Try.func5
    (ChangeSpec.witness6 (enc := enc) (C := Try.checked) false ⟨#[], #[.agg #[.int .i64 0, .int .i64 0, .int .u32 0]], []⟩ 8 (by kernel_rfl) (by kernel_rfl) (by kernel_rfl) (by kernel_rfl))
    rfl rfl Try.underlying4 (by kernel_rfl) (fun ds h => match ds, h with | [_], _ => rfl)
    (fun W base args ds p hval hA hsz => by
      rw [Try.params5] at hA hval
      have hsz' := hsz
      rw [Try.params5] at hsz'
      obtain ⟨v0, d0, rfl, rfl, h0⟩ := trodAll_one hA
      obtain ⟨ty, mx, gr, rfl, g0, g1⟩ := open_igmp (hval 0 27 v0 rfl rfl) h0
      exact iGMPEncodes_walk ty mx gr W g0 g1)
theorem iGMPEncodes_holds : Rows.IGMPEncodesSaid :=
  OpenClaim.holds_of_wide 5 Try.f5 rfl rfl rfl rfl rfl rfl rfl ⟨rfl, rfl, rfl, rfl, rfl⟩ rfl rfl rfl rfl rfl (by kernel_rfl) Try.func5 (by kernel_rfl)
    (of_decide_eq_true (by kernel_rfl)) (by unfold Func.isWrapper; rw [if_neg (of_decide_eq_false (by kernel_rfl))]; exact ⟨rfl, rfl⟩)
    (fun os started H enc _ => iGMPEncodes_lifted os started H enc)
end Go.Proofs.Ytjkmkafceeblpaa
