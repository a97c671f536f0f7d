/-
  Routes: what the law knows of a table of two; nil tables; the walk of RouteOfNothing.
-/
import Derived.Test.YtmboadgmhafedaaRtE
set_option linter.unusedVariables false
namespace Go.Proofs.Ytmboadgmhafedaa
open Go.RowKit

theorem addNil (w : World) (x y z u : Int) : Calls Try.prog 9 #[.pointer none, .agg #[.int .u32 x, .int .i64 y, .int .u32 z, .int .i64 u]] w fun e w' => e = .returned (.int .i64 1) ∧ Below w.heap.size w w' := by
  have B := Lib.hid (al (rf w) (.cells #[.int .u32 x, .int .i64 y, .int .u32 z, .int .i64 u] 36))
  go_enter Try.func9, Try.ntmps9
  go_wp2
  go_ret
  exact ⟨rfl, B.out⟩
theorem removeNil (w : World) (x y z u : Int) : Calls Try.prog 15 #[.pointer none, .agg #[.int .u32 x, .int .i64 y, .int .u32 z, .int .i64 u]] w fun e w' => e = .returned (.int .i64 1) ∧ Below w.heap.size w w' := by
  have B := Lib.hid (al (rf w) (.cells #[.int .u32 x, .int .i64 y, .int .u32 z, .int .i64 u] 36))
  go_enter Try.func15, Try.ntmps15
  go_wp2
  go_ret
  exact ⟨rfl, B.out⟩
theorem allNil (w : World) : Calls Try.prog 11 #[.pointer none] w fun e w' => e = .returned (.slice none 0 0) ∧ Below w.heap.size w w' := by
  go_enter Try.func11, Try.ntmps11
  go_wp2
  go_ret
  exact ⟨rfl, rf w⟩
-- an empty table
theorem ch_new (w : World) (a : Nat) : Ch (w.alloc (.cells #[.slice none 0 0, .pointer none, .pointer none, .int .i64 0] 32)) w.heap.size a 0 (fun _ => w.heap.size) (fun _ => nilS) 0 [] :=
  ⟨Blk.new w _ _, fun j h1 h2 => absurd h1 (by omega), fun i j hi hj _ => by omega, by simp, fun _ _ => Nat.le_refl _, by simp⟩
def rv2 (j : Nat) : Option R4 := if j = 8 then some ⟨167772160, 8, 1, 0⟩ else if j = 16 then some ⟨167837696, 16, 2, 0⟩ else none
set_option maxRecDepth 100000 in
set_option maxHeartbeats 1600000 in
theorem known (w : World) : Calls Try.prog 8 #[] w fun e w' => e = .returned (.bool true) ∧ Below w.heap.size w w' := by
  have C0 := Lib.hid (ch_new w 167838211)
  have B0 := Lib.hid (al (rf w) (.cells #[.slice none 0 0, .pointer none, .pointer none, .int .i64 0] 32))
  go_enter Try.func8, Try.ntmps8
  go_wp2_with fail
  generalize w.alloc (.cells #[.slice none 0 0, .pointer none, .pointer none, .int .i64 0] 32) = W at C0 B0 ⊢
  refine (addC W w.heap.size 167838211 0 (fun _ => w.heap.size) (fun _ => nilS) 0 [] C0.out 167772160 8 1 0 (by decide) (by decide) (by decide) (by decide +kernel) may1 (by decide) (by decide)).mono ?_
  rintro e w1 ⟨g1, rs1, h1, cap1, cs1, rfl, C1, e10, hr1, hn1, hx1, hc1, ht1, b1⟩
  have C1 := Lib.hid C1
  have B1 := Lib.hid (B0.out.trans b1)
  have HR1 := Lib.hid hr1
  have HN1 := Lib.hid hn1
  have HX1 := Lib.hid hx1
  have HT1 := Lib.hid ht1
  have HC1 := Lib.hid hc1
  have E10 : Hid (g1 0 = w.heap.size) := e10
  have A2 := addC w1 w.heap.size 167838211 8 g1 rs1 1 [(h1, cs1)] C1.out 167837696 16 2 0 (by decide) (by decide) (by decide) (by decide +kernel) may2 (by decide) (by decide)
  rw [E10.out] at A2
  have HA2 := Lib.hid A2
  clear e10 hr1 hn1 hx1 hc1 ht1 b1 A2
  go_wp2_with fail
  refine HA2.out.mono ?_
  rintro e w2 ⟨g2, rs2, h2, cap2, cs2, rfl, C2, e20, hr2, hn2, hx2, hc2, ht2, b2⟩
  have E20 : Hid (g2 0 = w.heap.size) := by show _ = _; rw [e20, E10.out]
  have B2 := Lib.hid (B1.out.trans b2)
  have C2 := Lib.hid C2
  have RT : Rts w2 16 rs2 rv2 := by
    intro j hj
    by_cases h16 : j = 16
    · subst h16
      exact .inr ⟨⟨167837696, 16, 2, 0⟩, h2, cap2, cs2, rfl, hx2, hc2, C2.out.kp (h2, cs2) (List.mem_cons_self ..), ht2⟩
    · by_cases h8 : j = 8
      · subst h8
        exact .inr ⟨⟨167772160, 8, 1, 0⟩, h1, cap1, cs1, rfl, by rw [hr2 8 (by omega)]; exact HX1.out, HC1.out, C2.out.kp (h1, cs1) (List.mem_cons_of_mem _ (List.mem_cons_self ..)), HT1.out⟩
      · refine .inl ⟨by unfold rv2; rw [if_neg h8, if_neg h16], ?_⟩
        by_cases hlt : j ≤ 8
        · rw [hr2 j hlt]
          by_cases h0 : j ≤ 0
          · exact HR1.out j h0
          · exact HN1.out j (by omega) (by omega)
        · exact hn2 j (by omega) (by omega)
  have F3 := findC w2 w.heap.size 167838211 16 g2 rs2 2 [(h2, cs2), (h1, cs1)] C2.out (by decide) (by decide) rv2 RT
  rw [E20.out] at F3
  have HF3 := Lib.hid F3
  clear e20 hr2 hn2 hx2 hc2 ht2 b2 F3 RT
  go_wp2_with fail
  refine HF3.out.mono ?_
  rintro e w3 ⟨rfl, b3⟩
  have B3 := Lib.hid (B2.out.trans (b3.mono B2.out.size))
  have eb : bestU rv2 (16 + 1) = (⟨167837696, 16, 2, 0⟩, 0) := rfl
  rw [eb]
  have B4 := Lib.hid (B3.out.alloc B3.out.size (.cells #[.int .u32 167837696, .int .i64 16, .int .u32 2, .int .i64 0] 36))
  unfold R4.cs
  clear b3 eb
  go_wp2
  go_ret
  exact ⟨rfl, B4.out⟩
end Go.Proofs.Ytmboadgmhafedaa
