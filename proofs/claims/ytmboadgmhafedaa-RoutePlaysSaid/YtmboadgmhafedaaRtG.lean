/-
  RouteOfNothing: for every route and address the law 'a nil table has no routes and takes none; an empty one has none' returns true. No conditions.
-/
import Derived.Test.YtmboadgmhafedaaRtF
import Derived.Test.YtmboadgmhafedaaLaw
import Derived.Test.YtmboadgmhafedaaOpn
set_option linter.unusedVariables false
namespace Go.Proofs.Ytmboadgmhafedaa
open Go.ChangeShapes Go.WideShapes Go.ChangeAt Go.RowKit

theorem eql_zero (w : World) : (binOp .eql 36 (.agg #[.int .u32 0, .int .i64 0, .int .u32 0, .int .i64 0]) (.agg #[.int .u32 0, .int .i64 0, .int .u32 0, .int .i64 0])).run Try.prog w = .ok (.bool true) w := by kernel_rfl
theorem rts_none (w : World) : Rts w 0 (fun _ => nilS) (fun _ => none) := fun j hj => .inl ⟨rfl, rfl⟩
set_option maxRecDepth 100000 in
set_option maxHeartbeats 1600000 in
theorem routeOfNothing_walk (x y z u : Int) (a : Nat) (ha : a < 4294967296) (w : World) :
    Calls Try.prog 7 #[.agg #[.int .u32 x, .int .i64 y, .int .u32 z, .int .i64 u], .int .u32 a] w fun e w' => e = .returned (.bool true) ∧ Below w.heap.size w w' := by
  have X0 := Lib.hid (Blk.new w 36 #[.int .u32 x, .int .i64 y, .int .u32 z, .int .i64 u])
  have B0 := Lib.hid (al (rf w) (.cells #[.int .u32 x, .int .i64 y, .int .u32 z, .int .i64 u] 36))
  have qz := eql_zero
  go_enter Try.func7, Try.ntmps7
  go_wp2_with fail
  refine (findNil _ a).mono ?_
  rintro e w1 ⟨rfl, b1⟩
  have X1 := Lib.hid (X0.out.nx b1)
  have B1 := Lib.hid (nx B0.out b1)
  clear b1
  have Y2 := Lib.hid (Blk.new w1 36 #[.int .u32 0, .int .i64 0, .int .u32 0, .int .i64 0])
  have X2 := Lib.hid (X1.out.alloc (.cells #[.int .u32 0, .int .i64 0, .int .u32 0, .int .i64 0] 36))
  have B2 := Lib.hid (al B1.out (.cells #[.int .u32 0, .int .i64 0, .int .u32 0, .int .i64 0] 36))
  have C3 := ch_new (w1.alloc (.cells #[.int .u32 0, .int .i64 0, .int .u32 0, .int .i64 0] 36)) a
  have F3 := findC _ _ a 0 _ _ 0 [] C3 ha (by decide) (fun _ => none) (rts_none _)
  rw [show (w1.alloc (.cells #[.int .u32 0, .int .i64 0, .int .u32 0, .int .i64 0] 36)).heap.size = w1.heap.size + 1 by simp] at F3
  have HF3 := Lib.hid F3
  have X3 := Lib.hid (X2.out.alloc (.cells #[.slice none 0 0, .pointer none, .pointer none, .int .i64 0] 32))
  have Y3 := Lib.hid (Y2.out.alloc (.cells #[.slice none 0 0, .pointer none, .pointer none, .int .i64 0] 32))
  have B3 := Lib.hid (al B2.out (.cells #[.slice none 0 0, .pointer none, .pointer none, .int .i64 0] 32))
  clear C3 F3
  go_wp2_with fail
  refine HF3.out.mono ?_
  rintro e w4 ⟨rfl, b4⟩
  have eb : bestU (fun _ => none) (0 + 1) = (⟨0, 0, 0, 0⟩, 7) := rfl
  rw [eb]
  unfold R4.cs
  have X4 := Lib.hid (X3.out.nx b4)
  have Y4 := Lib.hid (Y3.out.nx b4)
  have B4 := Lib.hid (nx B3.out b4)
  have V5 := Lib.hid (Blk.new w4 36 #[.int .u32 0, .int .i64 0, .int .u32 0, .int .i64 0])
  have X5 := Lib.hid (X4.out.alloc (.cells #[.int .u32 0, .int .i64 0, .int .u32 0, .int .i64 0] 36))
  have Y5 := Lib.hid (Y4.out.alloc (.cells #[.int .u32 0, .int .i64 0, .int .u32 0, .int .i64 0] 36))
  have B5 := Lib.hid (al B4.out (.cells #[.int .u32 0, .int .i64 0, .int .u32 0, .int .i64 0] 36))
  have c0 := X5.out.cell 0
  have c1 := X5.out.cell 1
  have c2 := X5.out.cell 2
  have c3 := X5.out.cell 3
  simp only [List.getElem?_toArray, List.getElem?_cons_zero, List.getElem?_cons_succ] at c0 c1 c2 c3
  clear b4 eb HF3 X0 X1 X2 X3 Y2 Y3
  go_wp2_with fail
  refine (addNil _ x y z u).mono ?_
  rintro e w6 ⟨rfl, b6⟩
  have X6 := Lib.hid (X5.out.nx b6)
  have Y6 := Lib.hid (Y5.out.nx b6)
  have V6 := Lib.hid (V5.out.nx b6)
  have B6 := Lib.hid (nx B5.out b6)
  clear b6 c0 c1 c2 c3
  have c0 := X6.out.cell 0
  have c1 := X6.out.cell 1
  have c2 := X6.out.cell 2
  have c3 := X6.out.cell 3
  simp only [List.getElem?_toArray, List.getElem?_cons_zero, List.getElem?_cons_succ] at c0 c1 c2 c3
  go_wp2_with fail
  refine (removeNil _ x y z u).mono ?_
  rintro e w7 ⟨rfl, b7⟩
  have Y7 := Lib.hid (Y6.out.nx b7)
  have V7 := Lib.hid (V6.out.nx b7)
  have B7 := Lib.hid (nx B6.out b7)
  clear b7 c0 c1 c2 c3
  have c0 := Y7.out.cell 0
  have c1 := Y7.out.cell 1
  have c2 := Y7.out.cell 2
  have c3 := Y7.out.cell 3
  simp only [List.getElem?_toArray, List.getElem?_cons_zero, List.getElem?_cons_succ] at c0 c1 c2 c3
  go_wp2_with fail
  refine (allNil _).mono ?_
  rintro e w8 ⟨rfl, b8⟩
  have V8 := Lib.hid (V7.out.nx b8)
  have B8 := Lib.hid (nx B7.out b8)
  clear b8 c0 c1 c2 c3
  have c0 := V8.out.cell 0
  have c1 := V8.out.cell 1
  have c2 := V8.out.cell 2
  have c3 := V8.out.cell 3
  simp only [List.getElem?_toArray, List.getElem?_cons_zero, List.getElem?_cons_succ] at c0 c1 c2 c3
  go_wp2_with fail
  refine (known _).mono ?_
  rintro e w9 ⟨rfl, b9⟩
  have B9 := Lib.hid (nx B8.out b9)
  clear b9 c0 c1 c2 c3
  go_wp2
  go_ret
  exact ⟨rfl, B9.out⟩
theorem open_route {H : Type} {enc : TypeId × Value → H} {w : World} {base b0 : Nat} {r : Reach} {sp : Nat → Bool} {held : Bool} {v : Value} {d : DataW H} {p : List MemPlace}
    (hv : Value.okWide Try.prog w r b0 36 v) (h : DataW.Trod enc Try.prog w base sp held 36 v d p) : ∃ x y z u, v = .agg #[.int .u32 x, .int .i64 y, .int .u32 z, .int .i64 u] := by
  obtain ⟨cs, rfl, hsz⟩ := okWide_struct Try.underlying36 hv
  obtain ⟨fuel, hf⟩ := h
  have hk := leaves_of (F := 4) (N := 4) (ks := [.int .u32, .int .i64, .int .u32, .int .i64]) hf (by kernel_rfl)
  have c3 : Try.prog.cellsOf 36 = 4 := by kernel_rfl
  rw [c3] at hsz
  simp only [Value.cells] at hk
  obtain ⟨l⟩ := cs
  match l, hsz with
  | [x0, x1, x2, x3], _ =>
    obtain ⟨v0, e0, a0, h0, _⟩ := hk 0 _ rfl
    obtain rfl : x0 = v0 := by injection e0
    subst h0
    obtain ⟨v1, e1, a1, h1, _⟩ := hk 1 _ rfl
    obtain rfl : x1 = v1 := by injection e1
    subst h1
    obtain ⟨v2, e2, a2, h2, _⟩ := hk 2 _ rfl
    obtain rfl : x2 = v2 := by injection e2
    subst h2
    obtain ⟨v3, e3, a3, h3, _⟩ := hk 3 _ rfl
    obtain rfl : x3 = v3 := by injection e3
    subst h3
    exact ⟨a0, a1, a2, a3, rfl⟩
theorem trod_u32 {H : Type} {enc : TypeId × Value → H} {P : Program} {w : World} {base : Nat} {sp : Nat → Bool} {held : Bool} {t : TypeId} {fuel : Nat} {cs : List Value} {x : DataW H × List MemPlace} (ht : P.underlying t = some (.int .u32)) (h : DataW.trod enc P w base sp held fuel t cs = some x) : ∃ n : Nat, cs = [.int .u32 n] ∧ n < 4294967296 := by
  obtain ⟨n, h1, _, h2⟩ := DataW.trod_int ht h
  have h3 : 0 ≤ n ∧ n ≤ 4294967295 := by
    constructor <;> (simp [Lit.wf, IntKind.min, IntKind.max, IntKind.signed, IntKind.bits] at h2; omega)
  exact ⟨n.toNat, by rw [h1]; congr 2; omega, by omega⟩
theorem open_addr {H : Type} {enc : TypeId × Value → H} {w : World} {base b0 : Nat} {r : Reach} {sp : Nat → Bool} {held : Bool} {v : Value} {d : DataW H} {p : List MemPlace}
    (hv : Value.okWide Try.prog w r b0 24 v) (h : DataW.Trod enc Try.prog w base sp held 24 v d p) : ∃ n : Nat, v = .int .u32 n ∧ n < 4294967296 := by
  obtain ⟨k, rfl⟩ := okWide_int Try.underlying24 hv
  obtain ⟨fuel, hf⟩ := h
  obtain ⟨n, h1, h2⟩ := trod_u32 Try.underlying24 hf
  simp [Value.cells] at h1
  exact ⟨n, by rw [h1], h2⟩
set_option maxRecDepth 100000 in
theorem routeOfNothing_lifted (os : Os) (started : os.Started) (H : Type) (enc : TypeId × Value → H) :
    ReturnsInHanded {} Try.checked os 7 .any (Rows.routeOfNothingSpec.pre6 enc Try.prog Try.f7 Rows.routeOfNothingRow.domain false) (Rows.routeOfNothingSpec.post enc Try.prog Try.f7 false true false false) :=
  law_lift started (by kernel_rfl) Try.func7
    (ChangeSpec.witness6 (enc := enc) (C := Try.checked) false ⟨#[], #[.agg #[.int .u32 0, .int .i64 0, .int .u32 0, .int .i64 0], .int .u32 0], []⟩ 8 (by kernel_rfl) (by kernel_rfl) (by kernel_rfl) (by kernel_rfl))
    rfl rfl Try.underlying4 (by kernel_rfl) (fun ds h => match ds, h with | [_, _], _ => rfl)
    (fun W base args ds p hval hA hsz => by
      rw [Try.params7] at hA hval
      have hsz' := hsz
      rw [Try.params7] at hsz'
      obtain ⟨v0, v1, d0, d1, p0, p1, rfl, rfl, rfl, h0, h1⟩ := trodAll_two hA
      obtain ⟨x, y, z, u, rfl⟩ := open_route (hval 0 36 v0 rfl rfl) h0
      obtain ⟨a, rfl, ha⟩ := open_addr (hval 1 24 v1 rfl rfl) h1
      exact routeOfNothing_walk x y z u a ha W)
theorem routeOfNothing_holds : Rows.RouteOfNothingSaid :=
  OpenClaim.holds_of_wide 7 Try.f7 rfl rfl rfl rfl rfl rfl rfl ⟨rfl, rfl, rfl, rfl, rfl⟩ rfl rfl rfl rfl rfl (by kernel_rfl) Try.func7 (by kernel_rfl)
    (of_decide_eq_true (by kernel_rfl)) (by unfold Func.isWrapper; rw [if_neg (of_decide_eq_false (by kernel_rfl))]; exact ⟨rfl, rfl⟩)
    (fun os started H enc _ => routeOfNothing_lifted os started H enc)
end Go.Proofs.Ytmboadgmhafedaa
