/-
  A nil client does nothing. No conditions.
-/
import Derived.Test.YtgdlghieifadhaaLsN
import Derived.Test.YtgdlghieifadhaaLsO
import Derived.Test.YtgdlghieifadhaaLs7
set_option linter.unusedVariables false
namespace Go.Proofs.Ytgdlghieifadhaa
open Go.ChangeShapes Go.WideShapes Go.ChangeAt Go.RowKit

theorem eql_zero (w : World) : (binOp .eql 27 (.agg #[.int .i64 0, .int .u32 0, .int .u32 0, .int .u8 0, .int .u8 0, .int .u8 0, .int .u8 0, .int .u8 0, .int .u8 0, .int .i64 0, .int .u32 0, .int .u32 0, .int .i64 0, .int .u32 0, .int .u32 0, .int .u32 0]) (.agg #[.int .i64 0, .int .u32 0, .int .u32 0, .int .u8 0, .int .u8 0, .int .u8 0, .int .u8 0, .int .u8 0, .int .u8 0, .int .i64 0, .int .u32 0, .int .u32 0, .int .i64 0, .int .u32 0, .int .u32 0, .int .u32 0])).run Try.prog w = .ok (.bool true) w := by kernel_rfl
set_option maxRecDepth 100000 in
set_option maxHeartbeats 3200000 in
theorem leaseOfNothing_walk (m : Ls) (now : Int) (w : World) :
    Calls Try.prog 8 #[.agg m.cs.toArray, .int .i64 now] w fun e w' => e = .returned (.bool true) ∧ Below w.heap.size w w' := by
  have M0 : Blk (w.alloc (.cells #[.int .i64 m.op, .int .u32 m.id, .int .u32 m.yours, .int .u8 m.cl.a, .int .u8 m.cl.b, .int .u8 m.cl.c, .int .u8 m.cl.d, .int .u8 m.cl.e, .int .u8 m.cl.f, .int .i64 m.ty, .int .u32 m.server, .int .u32 m.asked, .int .i64 m.time, .int .u32 m.mask, .int .u32 m.router, .int .u32 m.resolver] 27)) w.heap.size 27 #[.int .i64 m.op, .int .u32 m.id, .int .u32 m.yours, .int .u8 m.cl.a, .int .u8 m.cl.b, .int .u8 m.cl.c, .int .u8 m.cl.d, .int .u8 m.cl.e, .int .u8 m.cl.f, .int .i64 m.ty, .int .u32 m.server, .int .u32 m.asked, .int .i64 m.time, .int .u32 m.mask, .int .u32 m.router, .int .u32 m.resolver] := Blk.new _ _ _
  have bw0 := al (rf w) (.cells #[.int .i64 m.op, .int .u32 m.id, .int .u32 m.yours, .int .u8 m.cl.a, .int .u8 m.cl.b, .int .u8 m.cl.c, .int .u8 m.cl.d, .int .u8 m.cl.e, .int .u8 m.cl.f, .int .i64 m.ty, .int .u32 m.server, .int .u32 m.asked, .int .i64 m.time, .int .u32 m.mask, .int .u32 m.router, .int .u32 m.resolver] 27)
  have hx : ∀ W' d1 d2, Calls Try.prog 12 #[.pointer none, .agg #[.int .i64 m.op, .int .u32 m.id, .int .u32 m.yours, .int .u8 m.cl.a, .int .u8 m.cl.b, .int .u8 m.cl.c, .int .u8 m.cl.d, .int .u8 m.cl.e, .int .u8 m.cl.f, .int .i64 m.ty, .int .u32 m.server, .int .u32 m.asked, .int .i64 m.time, .int .u32 m.mask, .int .u32 m.router, .int .u32 m.resolver], .int .i64 d1, .int .i64 d2] W' _ := fun W' d1 d2 => hearN m d1 d2 W'
  have HX := Lib.hid hx; clear hx
  have qz := eql_zero
  have wz : IntKind.i64.wrap 0 = 0 := by decide
  simp only [Ls.cs]
  go_enter Try.func8, Try.ntmps8
  go_wp2_with fail
  refine (hasMN _).mono ?_
  rintro e w1 ⟨rfl, hb1⟩
  simp only [Ls.cs, zeroL, zeroM]
  have M1 := M0.nx hb1
  have bw1 := nx bw0 hb1
  clear M0 bw0 hb1
  obtain ⟨g, hg⟩ : ∃ g, g = w1.heap.size := ⟨_, rfl⟩
  have BZ : Blk (w1.alloc (.cells #[.int .i64 0, .int .u32 0, .int .u32 0, .int .u8 0, .int .u8 0, .int .u8 0, .int .u8 0, .int .u8 0, .int .u8 0, .int .i64 0, .int .u32 0, .int .u32 0, .int .i64 0, .int .u32 0, .int .u32 0, .int .u32 0] 27)) g 27 #[.int .i64 0, .int .u32 0, .int .u32 0, .int .u8 0, .int .u8 0, .int .u8 0, .int .u8 0, .int .u8 0, .int .u8 0, .int .i64 0, .int .u32 0, .int .u32 0, .int .i64 0, .int .u32 0, .int .u32 0, .int .u32 0] := blk_at _ _ _ hg
  have BM := M1.alloc (.cells #[.int .i64 0, .int .u32 0, .int .u32 0, .int .u8 0, .int .u8 0, .int .u8 0, .int .u8 0, .int .u8 0, .int .u8 0, .int .i64 0, .int .u32 0, .int .u32 0, .int .i64 0, .int .u32 0, .int .u32 0, .int .u32 0] 27)
  have bw2 := al bw1 (.cells #[.int .i64 0, .int .u32 0, .int .u32 0, .int .u8 0, .int .u8 0, .int .u8 0, .int .u8 0, .int .u8 0, .int .u8 0, .int .i64 0, .int .u32 0, .int .u32 0, .int .i64 0, .int .u32 0, .int .u32 0, .int .u32 0] 27)
  go_wp2
  rw [← hg]
  have HG := Lib.hid hg; clear hg
  generalize w1.alloc (.cells #[.int .i64 0, .int .u32 0, .int .u32 0, .int .u8 0, .int .u8 0, .int .u8 0, .int .u8 0, .int .u8 0, .int .u8 0, .int .i64 0, .int .u32 0, .int .u32 0, .int .i64 0, .int .u32 0, .int .u32 0, .int .u32 0] 27) = W at BZ BM bw2 ⊢
  have KK : ∀ w', Below W.heap.size W w' → (w'.cell? ⟨w.heap.size, 0, none⟩ = some (.int .i64 m.op) ∧ w'.cell? ⟨w.heap.size, 1, none⟩ = some (.int .u32 m.id) ∧ w'.cell? ⟨w.heap.size, 2, none⟩ = some (.int .u32 m.yours) ∧ w'.cell? ⟨w.heap.size, 3, none⟩ = some (.int .u8 m.cl.a) ∧ w'.cell? ⟨w.heap.size, 4, none⟩ = some (.int .u8 m.cl.b) ∧ w'.cell? ⟨w.heap.size, 5, none⟩ = some (.int .u8 m.cl.c) ∧ w'.cell? ⟨w.heap.size, 6, none⟩ = some (.int .u8 m.cl.d) ∧ w'.cell? ⟨w.heap.size, 7, none⟩ = some (.int .u8 m.cl.e) ∧ w'.cell? ⟨w.heap.size, 8, none⟩ = some (.int .u8 m.cl.f) ∧ w'.cell? ⟨w.heap.size, 9, none⟩ = some (.int .i64 m.ty) ∧ w'.cell? ⟨w.heap.size, 10, none⟩ = some (.int .u32 m.server) ∧ w'.cell? ⟨w.heap.size, 11, none⟩ = some (.int .u32 m.asked) ∧ w'.cell? ⟨w.heap.size, 12, none⟩ = some (.int .i64 m.time) ∧ w'.cell? ⟨w.heap.size, 13, none⟩ = some (.int .u32 m.mask) ∧ w'.cell? ⟨w.heap.size, 14, none⟩ = some (.int .u32 m.router) ∧ w'.cell? ⟨w.heap.size, 15, none⟩ = some (.int .u32 m.resolver) ∧ w'.cell? ⟨g, 0, none⟩ = some (.int .i64 0) ∧ w'.cell? ⟨g, 1, none⟩ = some (.int .u32 0) ∧ w'.cell? ⟨g, 2, none⟩ = some (.int .u32 0) ∧ w'.cell? ⟨g, 3, none⟩ = some (.int .u8 0) ∧ w'.cell? ⟨g, 4, none⟩ = some (.int .u8 0) ∧ w'.cell? ⟨g, 5, none⟩ = some (.int .u8 0) ∧ w'.cell? ⟨g, 6, none⟩ = some (.int .u8 0) ∧ w'.cell? ⟨g, 7, none⟩ = some (.int .u8 0) ∧ w'.cell? ⟨g, 8, none⟩ = some (.int .u8 0) ∧ w'.cell? ⟨g, 9, none⟩ = some (.int .i64 0) ∧ w'.cell? ⟨g, 10, none⟩ = some (.int .u32 0) ∧ w'.cell? ⟨g, 11, none⟩ = some (.int .u32 0) ∧ w'.cell? ⟨g, 12, none⟩ = some (.int .i64 0) ∧ w'.cell? ⟨g, 13, none⟩ = some (.int .u32 0) ∧ w'.cell? ⟨g, 14, none⟩ = some (.int .u32 0) ∧ w'.cell? ⟨g, 15, none⟩ = some (.int .u32 0)) ∧ Below W.heap.size W w' := fun w' k => ⟨⟨(BM.nx k).cell 0, (BM.nx k).cell 1, (BM.nx k).cell 2, (BM.nx k).cell 3, (BM.nx k).cell 4, (BM.nx k).cell 5, (BM.nx k).cell 6, (BM.nx k).cell 7, (BM.nx k).cell 8, (BM.nx k).cell 9, (BM.nx k).cell 10, (BM.nx k).cell 11, (BM.nx k).cell 12, (BM.nx k).cell 13, (BM.nx k).cell 14, (BM.nx k).cell 15, (BZ.nx k).cell 0, (BZ.nx k).cell 1, (BZ.nx k).cell 2, (BZ.nx k).cell 3, (BZ.nx k).cell 4, (BZ.nx k).cell 5, (BZ.nx k).cell 6, (BZ.nx k).cell 7, (BZ.nx k).cell 8, (BZ.nx k).cell 9, (BZ.nx k).cell 10, (BZ.nx k).cell 11, (BZ.nx k).cell 12, (BZ.nx k).cell 13, (BZ.nx k).cell 14, (BZ.nx k).cell 15⟩, k⟩
  have K := Lib.hid KK; clear KK
  clear M1 bw1
  go_region_held3 (fun w' => (w'.cell? ⟨w.heap.size, 0, none⟩ = some (.int .i64 m.op) ∧ w'.cell? ⟨w.heap.size, 1, none⟩ = some (.int .u32 m.id) ∧ w'.cell? ⟨w.heap.size, 2, none⟩ = some (.int .u32 m.yours) ∧ w'.cell? ⟨w.heap.size, 3, none⟩ = some (.int .u8 m.cl.a) ∧ w'.cell? ⟨w.heap.size, 4, none⟩ = some (.int .u8 m.cl.b) ∧ w'.cell? ⟨w.heap.size, 5, none⟩ = some (.int .u8 m.cl.c) ∧ w'.cell? ⟨w.heap.size, 6, none⟩ = some (.int .u8 m.cl.d) ∧ w'.cell? ⟨w.heap.size, 7, none⟩ = some (.int .u8 m.cl.e) ∧ w'.cell? ⟨w.heap.size, 8, none⟩ = some (.int .u8 m.cl.f) ∧ w'.cell? ⟨w.heap.size, 9, none⟩ = some (.int .i64 m.ty) ∧ w'.cell? ⟨w.heap.size, 10, none⟩ = some (.int .u32 m.server) ∧ w'.cell? ⟨w.heap.size, 11, none⟩ = some (.int .u32 m.asked) ∧ w'.cell? ⟨w.heap.size, 12, none⟩ = some (.int .i64 m.time) ∧ w'.cell? ⟨w.heap.size, 13, none⟩ = some (.int .u32 m.mask) ∧ w'.cell? ⟨w.heap.size, 14, none⟩ = some (.int .u32 m.router) ∧ w'.cell? ⟨w.heap.size, 15, none⟩ = some (.int .u32 m.resolver) ∧ w'.cell? ⟨g, 0, none⟩ = some (.int .i64 0) ∧ w'.cell? ⟨g, 1, none⟩ = some (.int .u32 0) ∧ w'.cell? ⟨g, 2, none⟩ = some (.int .u32 0) ∧ w'.cell? ⟨g, 3, none⟩ = some (.int .u8 0) ∧ w'.cell? ⟨g, 4, none⟩ = some (.int .u8 0) ∧ w'.cell? ⟨g, 5, none⟩ = some (.int .u8 0) ∧ w'.cell? ⟨g, 6, none⟩ = some (.int .u8 0) ∧ w'.cell? ⟨g, 7, none⟩ = some (.int .u8 0) ∧ w'.cell? ⟨g, 8, none⟩ = some (.int .u8 0) ∧ w'.cell? ⟨g, 9, none⟩ = some (.int .i64 0) ∧ w'.cell? ⟨g, 10, none⟩ = some (.int .u32 0) ∧ w'.cell? ⟨g, 11, none⟩ = some (.int .u32 0) ∧ w'.cell? ⟨g, 12, none⟩ = some (.int .i64 0) ∧ w'.cell? ⟨g, 13, none⟩ = some (.int .u32 0) ∧ w'.cell? ⟨g, 14, none⟩ = some (.int .u32 0) ∧ w'.cell? ⟨g, 15, none⟩ = some (.int .u32 0)) ∧ Below W.heap.size W w')
    (first | (refine K.out _ ?_; first | exact (rf W).drew | (apply And.right <;> assumption) | (refine nx (And.right (by assumption)) ?_; assumption) | (refine dn (And.right (by assumption)) _)))
    (first
    | (go_at_call 11; refine (startN _ _ _).mono ?_; rintro e w' ⟨rfl, rfl⟩)
    | (go_at_call 12; refine (HX.out _ _ _).mono ?_; rintro e w' ⟨rfl, hbh⟩)
    | (go_at_call 15; refine (tickN _ _ _).mono ?_; rintro e w' ⟨rfl, n, rfl⟩)
    | (go_at_call 18; refine (releaseN _).mono ?_; rintro e w' ⟨rfl, rfl⟩)
    | (go_at_call 13; refine (stateN _).mono ?_; rintro e w' ⟨rfl, rfl⟩)
    | (go_at_call 14; refine (known _).mono ?_; rintro e w' ⟨rfl, hbk⟩))
  rename_i hHeld
  have bl := hHeld.2
  clear hHeld
  go_wp2
  go_ret
  exact ⟨rfl, nx bw2 bl⟩

set_option maxRecDepth 100000 in
theorem leaseOfNothing_lifted (os : Os) (started : os.Started) (H : Type) (enc : TypeId × Value → H) :
    ReturnsInHanded {} Try.checked os 8 .any (Rows.leaseOfNothingSpec.pre6 enc Try.prog Try.f8 Rows.leaseOfNothingRow.domain false) (Rows.leaseOfNothingSpec.post enc Try.prog Try.f8 false true false false) :=
  law_lift started (by kernel_rfl) Try.func8
    (ChangeSpec.witness6 (enc := enc) (C := Try.checked) false ⟨#[], #[.agg #[.int .i64 0, .int .u32 0, .int .u32 0, .int .u8 0, .int .u8 0, .int .u8 0, .int .u8 0, .int .u8 0, .int .u8 0, .int .i64 0, .int .u32 0, .int .u32 0, .int .i64 0, .int .u32 0, .int .u32 0, .int .u32 0], .int .i64 0], []⟩ 8 (by kernel_rfl) (by kernel_rfl) (by kernel_rfl) (by kernel_rfl))
    rfl rfl Try.underlying4 (by kernel_rfl) (fun ds h => match ds, h with | [_, _], _ => rfl)
    (fun W base args ds p hval hA hsz => by
      rw [Try.params8] at hA hval
      obtain ⟨v0, v1, d0, d1, p0, p1, rfl, rfl, rfl, h0, h1⟩ := trodAll_two hA
      obtain ⟨m, rfl⟩ := open_lease (hval 0 27 v0 rfl rfl) h0
      obtain ⟨n, rfl, _, _, _⟩ := open_int Try.underlying3 (hval 1 3 v1 rfl rfl) h1
      exact leaseOfNothing_walk m n W)

theorem leaseOfNothing_holds : Rows.LeaseOfNothingSaid :=
  OpenClaim.holds_of_wide 8 Try.f8 rfl rfl rfl rfl rfl rfl rfl ⟨rfl, rfl, rfl, rfl, rfl⟩ rfl rfl rfl rfl rfl (by kernel_rfl) Try.func8 (by kernel_rfl)
    (of_decide_eq_true (by kernel_rfl)) (by unfold Func.isWrapper; rw [if_neg (of_decide_eq_false (by kernel_rfl))]; exact ⟨rfl, rfl⟩)
    (fun os started H enc _ => leaseOfNothing_lifted os started H enc)
end Go.Proofs.Ytgdlghieifadhaa
