/-
  IGMPHushes: for every group, whether it was heard or not, and every draw, the law 'one whose report another host told leaves without a word' returns true. No condition.
-/
import Derived.Test.YtjkmkafceeblpaaIg3
import Derived.Test.YtjkmkafceeblpaaIgA
set_option linter.unusedVariables false
namespace Go.Proofs.Ytjkmkafceeblpaa
open Go.ChangeShapes Go.WideShapes Go.ChangeAt Go.RowKit

set_option maxHeartbeats 1600000 in
theorem iGMPHushes_bad (a draw : Int) (b : Bool) (w : World) (ha : a < 3758096386 ∨ 4026531840 ≤ a) :
    Calls Try.prog 6 #[.int .u32 a, .bool b, .int .i64 draw] w fun e w' => e = .returned (.bool true) ∧ Below w.heap.size w w' := by
  have HA := Lib.hid ha
  by_cases h1 : a ≤ 3758096385
  · clear ha
    go_enter Try.func6, Try.ntmps6
    go_wp2_with fail
    refine (joinBad _ w.heap.size a 0 draw HA.out).mono ?_
    rintro e w1 ⟨rfl, b1⟩
    go_wp2_with fail
    refine (known _).mono ?_
    rintro e w2 ⟨rfl, b2⟩
    go_wp2
    go_ret
    exact ⟨rfl, nx (nx (al (rf w) _) b1) b2⟩
  · have h2 : 4026531840 ≤ a := by omega
    clear ha
    go_enter Try.func6, Try.ntmps6
    go_wp2_with fail
    refine (joinBad _ w.heap.size a 0 draw HA.out).mono ?_
    rintro e w1 ⟨rfl, b1⟩
    go_wp2_with fail
    refine (known _).mono ?_
    rintro e w2 ⟨rfl, b2⟩
    go_wp2
    go_ret
    exact ⟨rfl, nx (nx (al (rf w) _) b1) b2⟩
set_option maxHeartbeats 3200000 in
theorem iGMPHushes_ok (a draw : Int) (b : Bool) (w : World) (a0 : 3758096386 ≤ a) (a1 : a < 4026531840) (d0 : -9223372036854775808 ≤ draw) (d1 : draw ≤ 9223372036854775807) :
    Calls Try.prog 6 #[.int .u32 a, .bool b, .int .i64 draw] w fun e w' => e = .returned (.bool true) ∧ Below w.heap.size w w' := by
  go_enter Try.func6, Try.ntmps6
  go_wp2_with fail
  refine (join0 _ w.heap.size a 0 draw (Blk.new w _ _) a0 a1 (by omega) (by omega) d1 d0).mono ?_
  rintro e w1 ⟨g, cap, t, s, rfl, hs, o, lg, gr⟩
  have O1 := Lib.hid o
  have LG : Hid (w.heap.size < g) := by simp at lg; show _ < _; omega
  have B1 : Hid (Below w.heap.size w w1) := (al (rf w) _).trans (below_only gr (Nat.le_refl _) (by simp))
  have hd : 0 + (1 + max 0 draw % 10) ≤ 1000 := by omega
  clear o lg gr hs
  generalize 0 + (1 + max 0 draw % 10) = x at O1 hd
  cases b with
  | true =>
    go_wp2_with fail
    refine (hear1 w1 w.heap.size g cap t a 0 0 x true O1.out (by omega) (by omega)).mono ?_
    rintro e w2 ⟨rfl, o2, gr2⟩
    have O2 := Lib.hid o2
    have B2 : Hid (Below w.heap.size w w2) := B1.out.trans (below_only gr2 (Nat.le_of_lt LG.out) B1.out.size)
    clear o2 gr2
    go_wp2_with fail
    refine (tick_off w2 w.heap.size g cap a 1000 false O2.out).mono ?_
    rintro e w3 ⟨rfl, b3⟩
    go_wp2_with fail
    refine (leave1 w3 w.heap.size g cap a none false (O2.out.nx b3) LG.out).mono ?_
    rintro e w4 ⟨⟨A, c, rfl, _⟩, gone, b4⟩
    rw [if_neg (by decide)]
    have B4 : Hid (Below w.heap.size w w4) := (nx B2.out b3).trans b4
    have GN := Lib.hid gone
    clear gone b4
    go_wp2_with fail
    refine (leave0 w4 w.heap.size a GN.out).mono ?_
    rintro e w5 ⟨rfl, b5⟩
    go_wp2_with fail
    refine (known _).mono ?_
    rintro e w6 ⟨rfl, b6⟩
    go_wp2
    go_ret
    exact ⟨rfl, nx (nx B4.out b5) b6⟩
  | false =>
    go_wp2_with fail
    refine (tick_fire w1 w.heap.size g cap t a 1000 x true O1.out hd).mono ?_
    rintro e w3 ⟨A3, c3, rfl, o3, gr3⟩
    have O3 := Lib.hid o3
    have B3 : Hid (Below w.heap.size w w3) := B1.out.trans (below_only gr3 (Nat.le_of_lt LG.out) B1.out.size)
    clear o3 gr3
    go_wp2_with fail
    refine (leave1 w3 w.heap.size g cap a none true O3.out LG.out).mono ?_
    rintro e w4 ⟨⟨A, c, rfl, hm⟩, gone, b4⟩
    obtain ⟨s, rfl, hb⟩ := hm rfl
    rw [if_pos rfl]
    have B4 : Hid (Below w.heap.size w w4) := B3.out.trans b4
    have GN := Lib.hid gone
    have HB := Lib.hid hb
    clear gone b4 hb hm
    go_wp2_with fail
    refine (leave0 w4 w.heap.size a GN.out).mono ?_
    rintro e w5 ⟨rfl, b5⟩
    have e0 : w5.cell? ⟨s, 0, none⟩ = some (.int .i64 23) := (HB.out.nx b5).cell 0
    have e2 : w5.cell? ⟨s, 2, none⟩ = some (.int .u32 a) := (HB.out.nx b5).cell 2
    go_wp2_with fail
    refine (known _).mono ?_
    rintro e w6 ⟨rfl, b6⟩
    go_wp2
    go_ret
    exact ⟨rfl, nx (nx B4.out b5) b6⟩
theorem iGMPHushes_walk (a draw : Int) (b : Bool) (w : World) (d0 : -9223372036854775808 ≤ draw) (d1 : draw ≤ 9223372036854775807) :
    Calls Try.prog 6 #[.int .u32 a, .bool b, .int .i64 draw] w fun e w' => e = .returned (.bool true) ∧ Below w.heap.size w w' := by
  by_cases h : a < 3758096386 ∨ 4026531840 ≤ a
  · exact iGMPHushes_bad a draw b w h
  · exact iGMPHushes_ok a draw b w (by omega) (by omega) d0 d1
set_option maxRecDepth 100000 in
theorem iGMPHushes_lifted (os : Os) (started : os.Started) (H : Type) (enc : TypeId × Value → H) :
    ReturnsInHanded {} Try.checked os 6 .any (Rows.iGMPHushesSpec.pre6 enc Try.prog Try.f6 Rows.iGMPHushesRow.domain false) (Rows.iGMPHushesSpec.post enc Try.prog Try.f6 false true false false) :=
  law_lift started (by kernel_rfl) Try.func6
    (ChangeSpec.witness6 (enc := enc) (C := Try.checked) false ⟨#[], #[.int .u32 0, .bool false, .int .i64 0], []⟩ 8 (by kernel_rfl) (by kernel_rfl) (by kernel_rfl) (by kernel_rfl))
    rfl rfl Try.underlying4 (by kernel_rfl) (fun ds h => match ds, h with | [_, _, _], _ => rfl)
    (fun W base args ds p hval hA hsz => by
      rw [Try.params6] at hA hval
      have hsz' := hsz
      rw [Try.params6] at hsz'
      obtain ⟨v0, v1, v2, d0, d1, d2, p0, p1, p2, rfl, rfl, rfl, h0, h1, h2⟩ := trodAll_three hA
      obtain ⟨a, rfl, _, _⟩ := open_addrx (hval 0 25 v0 rfl rfl) h0
      obtain ⟨b, rfl, _, _⟩ := open_bool Try.underlying4 (hval 1 4 v1 rfl rfl) h1
      obtain ⟨n, rfl, n0, n1⟩ := open_i64x (hval 2 3 v2 rfl rfl) h2
      exact iGMPHushes_walk a n b W n0 n1)
theorem iGMPHushes_holds : Rows.IGMPHushesSaid :=
  OpenClaim.holds_of_wide 6 Try.f6 rfl rfl rfl rfl rfl rfl rfl ⟨rfl, rfl, rfl, rfl, rfl⟩ rfl rfl rfl rfl rfl (by kernel_rfl) Try.func6 (by kernel_rfl)
    (of_decide_eq_true (by kernel_rfl)) (by unfold Func.isWrapper; rw [if_neg (of_decide_eq_false (by kernel_rfl))]; exact ⟨rfl, rfl⟩)
    (fun os started H enc _ => iGMPHushes_lifted os started H enc)
end Go.Proofs.Ytjkmkafceeblpaa
