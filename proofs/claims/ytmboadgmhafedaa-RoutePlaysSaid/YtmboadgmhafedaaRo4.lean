/-
  RouteFinds: for every list of routes and address the law 'what is found fits the address, and nothing that fits is longer, or as long and nearer' returns true. No conditions.
-/
import Derived.Test.YtmboadgmhafedaaRo2
import Derived.Test.YtmboadgmhafedaaTr10
import Derived.Test.YtmboadgmhafedaaLaw
import Derived.Test.YtmboadgmhafedaaOpn
set_option linter.unusedVariables false
namespace Go.Proofs.Ytmboadgmhafedaa
open Go.ChangeShapes Go.WideShapes Go.ChangeAt Go.RowKit

-- one table
def One (w : World) (B t : Nat) (L : List R4) : Prop := ∃ T, Tab w B t L T
theorem One.nx {w w' : World} {B t : Nat} {L : List R4} (h : One w B t L) (k : Below w.heap.size w w') : One w' B t L := by
  obtain ⟨T, h⟩ := h
  exact ⟨T, h.nx k⟩
theorem One.ok {w : World} {B t : Nat} {L : List R4} (h : One w B t L) : TabOK L := by
  obtain ⟨T, h⟩ := h
  exact h.ok
theorem One.add {w : World} {B t : Nat} {L : List R4} (h : One w B t L) (r : R4) (hr : InU r) :
    Calls Try.prog 9 #[.pointer (some ⟨t, 0, none⟩), .agg #[.int .u32 r.x, .int .i64 r.y, .int .u32 r.z, .int .i64 r.u]] w fun e w' => e = .returned (.int .i64 (addL L r).2) ∧ One w' B t (addL L r).1 ∧ Below B w w' := by
  obtain ⟨T, h⟩ := h
  refine (addK w h r hr).mono ?_
  rintro e w' ⟨T', rfl, k1, k2⟩
  exact ⟨rfl, ⟨T', k1⟩, k2.below h⟩
theorem One.all {w : World} {B t : Nat} {L : List R4} (h : One w B t L) : Calls Try.prog 11 #[.pointer (some ⟨t, 0, none⟩)] w (AllP w L) := by
  obtain ⟨T, h⟩ := h
  exact allK w h
theorem One.find {w : World} {B t : Nat} {L : List R4} (h : One w B t L) (a : Nat) (ha : a < 4294967296) :
    Calls Try.prog 10 #[.pointer (some ⟨t, 0, none⟩), .int .u32 a] w fun e w' => e = .returned (.tuple #[.agg (findL L a).1.cs.toArray, .int .i64 (findL L a).2]) ∧ Below w.heap.size w w' := by
  obtain ⟨T, h⟩ := h
  exact findK w h a ha
theorem one_new (w : World) : One (w.alloc (.cells #[.slice none 0 0, .pointer none, .pointer none, .int .i64 0] 32)) w.heap.size w.heap.size [] := ⟨_, tab_new w⟩
set_option maxRecDepth 10000 in
set_option maxHeartbeats 3200000 in
theorem routeFinds_walk (A : Option Addr) (n c : Nat) (l : List R4) (a : Nat) (w : World) (hn : n ≤ c) (hm : c ≤ maxLen) (hA : IsL w A n l) (ha : a < 4294967296) :
    Calls Try.prog 3 #[.slice A n c, .int .u32 a] w fun e w' => e = .returned (.bool true) ∧ Below w.heap.size w w' := by
  unfold maxLen at hm
  have HA := Lib.hid hA
  have HAA : Hid (a < 4294967296) := ha
  clear hA ha
  by_cases h64 : n ≤ 200
  rotate_left
  · have e64 : decide ((200 : Int) < n) = true := by rw [decide_eq_true_eq]; omega
    clear h64
    go_enter Try.func3, Try.ntmps3
    go_wp2_with fail
    refine (known _).mono ?_
    rintro e w9 ⟨rfl, hb9⟩
    go_wp2
    go_ret
    exact ⟨rfl, hb9⟩
  have e64 : decide ((200 : Int) < n) = false := by rw [decide_eq_false_iff_not]; omega
  have TW := Lib.hid (one_new w)
  have HBW := Lib.hid (al (rf w) (.cells #[.slice none 0 0, .pointer none, .pointer none, .int .i64 0] 32))
  go_enter Try.func3, Try.ntmps3
  go_wp2
  generalize w.alloc (.cells #[.slice none 0 0, .pointer none, .pointer none, .int .i64 0] 32) = W at TW HBW ⊢
  go_loopw [6] (fun iv wr => ∃ k : Nat, iv = .int .i64 k ∧ k ≤ n ∧ Hid (One wr w.heap.size w.heap.size (addAll (l.take k))) ∧ Hid (Below w.heap.size w wr)) (fun iv _ => n - (intOf iv).toNat)
  case atStart => exact ⟨0, rfl, Nat.zero_le _, TW.out, HBW.out⟩
  case round =>
    obtain ⟨k, rfl, hk, TK, HBK⟩ := hrel
    by_cases hki : k < n
    · have k0 : (0 : Int) ≤ k := by omega
      have k1 : (k : Int) < n := by omega
      obtain ⟨ad, x, hAd, _, hx, hxu, hcx⟩ := (HA.out.nx HBK.out).at_ hki
      subst hAd
      have EX := Lib.hid (addAll_succ hx)
      have x0 : wr.cell? (ad.add (k * 4)) = some (.int .u32 x.x) := hcx 0 _ rfl
      have x1 : wr.cell? ⟨(ad.add (k * 4)).block, (ad.add (k * 4)).off + 1, none⟩ = some (.int .i64 x.y) := hcx 1 _ rfl
      have x2 : wr.cell? ⟨(ad.add (k * 4)).block, (ad.add (k * 4)).off + 2, none⟩ = some (.int .u32 x.z) := hcx 2 _ rfl
      have x3 : wr.cell? ⟨(ad.add (k * 4)).block, (ad.add (k * 4)).off + 3, none⟩ = some (.int .i64 x.u) := hcx 3 _ rfl
      have A1 := Lib.hid (TK.out.add x hxu)
      clear hcx hx hxu
      go_wp2_with fail
      refine A1.out.mono ?_
      rintro e w1 ⟨rfl, T1, b1⟩
      have HT1 : Hid (One w1 w.heap.size w.heap.size (addAll (l.take (k + 1)))) := by show One _ _ _ _; rw [EX.out]; exact T1
      have HB1 := Lib.hid (HBK.out.trans b1)
      clear T1 b1 x0 x1 x2 x3
      go_wp2
      go_roundw
      case rel => exact ⟨k + 1, by go_num, by omega, HT1.out, HB1.out⟩
      case measure => simp [intOf]; omega
    · obtain rfl : k = n := by omega
      obtain ⟨L, hL⟩ : ∃ L, addAll (l.take k) = L := ⟨_, rfl⟩
      rw [hL] at TK
      clear hL
      have HOK := Lib.hid TK.out.ok
      have FD := Lib.hid (TK.out.find a HAA.out)
      have HL64 : Hid (L.length ≤ 64) := HOK.out.len
      clear HA TW HBW
      rcases find_best HOK.out a with ⟨hf, hno⟩ | ⟨r, hf, hr, hrf, hbest⟩
      · rw [hf] at FD
        unfold R4.cs at FD
        have HNO := Lib.hid hno
        clear hf hno
        go_wp2_with fail
        refine FD.out.mono ?_
        rintro e w1 ⟨rfl, b1⟩
        have T1 := Lib.hid (TK.out.nx b1)
        have HB1 := Lib.hid (nx HBK.out b1)
        have BX := Lib.hid (Blk.new w1 36 #[.int .u32 0, .int .i64 0, .int .u32 0, .int .i64 0])
        have T2 := Lib.hid (T1.out.nx (al (rf w1) (.cells #[.int .u32 0, .int .i64 0, .int .u32 0, .int .i64 0] 36)))
        have HB2 := Lib.hid (al HB1.out (.cells #[.int .u32 0, .int .i64 0, .int .u32 0, .int .i64 0] 36))
        have AL := Lib.hid T2.out.all
        clear b1
        go_wp2_with fail
        refine AL.out.mono ?_
        rintro e w2 ⟨v2, rfl, o2, b2⟩
        obtain ⟨A2, c2, hv2, hc2⟩ := o2.form
        subst hv2
        have O2 := Lib.hid o2
        have BX2 := Lib.hid (BX.out.nx b2)
        have HB3 := Lib.hid (nx HB2.out b2)
        obtain ⟨q, hq⟩ : ∃ q, L.length = q := ⟨_, rfl⟩
        have HQ := Lib.hid hq
        rw [hq] at hc2
        simp only [hq]
        have hq64 : q ≤ 64 := by rw [← hq]; exact HL64.out
        clear o2 b2 hq
        go_wp2
        go_loopw [10, 11] (fun fv iv wr => ∃ j : Nat, fv = .int .i64 0 ∧ iv = .int .i64 j ∧ j ≤ q ∧ Hid (Below w2.heap.size w2 wr)) (fun _ iv _ => q - (intOf iv).toNat)
        case atStart => exact ⟨0, rfl, rfl, Nat.zero_le _, rf w2⟩
        case round =>
          obtain ⟨j, rfl, rfl, hj, HBJ⟩ := hrel
          by_cases hjq : j < q
          · have j0 : (0 : Int) ≤ j := by omega
            have j1 : (j : Int) < q := by omega
            obtain ⟨x, hx⟩ : ∃ x, L[j]? = some x := ⟨_, List.getElem?_eq_getElem (by have := HQ.out; omega)⟩
            obtain ⟨g, hA, _, d0, d1, d2, d3⟩ := OwnL.cells (by have := O2.out.nx HBJ.out; rwa [HQ.out] at this) hx
            subst hA
            have hxL := List.mem_of_getElem? hx
            have FC := Lib.hid (fun W : World => fitsC x (HOK.out.wf x hxL) a HAA.out W)
            rw [HNO.out x hxL] at FC
            have HBJ2 := Lib.hid (al HBJ.out (.cells #[.int .u32 x.x, .int .i64 x.y, .int .u32 x.z, .int .i64 x.u] 36))
            clear hx hxL
            go_wp2_with fail
            refine (FC.out _).mono ?_
            rintro e w5 ⟨rfl, b5⟩
            have HB5 := Lib.hid (nx HBJ2.out b5)
            clear b5
            go_wp2
            go_roundw
            case rel => exact ⟨j + 1, rfl, by go_num, by omega, HB5.out⟩
            case measure => simp [intOf]; omega
          · obtain rfl : j = q := by omega
            have HBE := Lib.hid (nx HB3.out HBJ.out)
            go_wp2_with fail
            refine (known _).mono ?_
            rintro e w9 ⟨rfl, hb9⟩
            have HE := Lib.hid (nx HBE.out hb9)
            clear hb9
            go_wp2
            go_ret
            exact ⟨rfl, HE.out⟩
      · rw [hf] at FD
        unfold R4.cs at FD
        have HRL := Lib.hid hr
        have HRF := Lib.hid hrf
        have HBE := Lib.hid hbest
        have FR := Lib.hid (fun W : World => fitsC r (HOK.out.wf r hr) a HAA.out W)
        rw [hrf] at FR
        clear hf hr hrf hbest
        go_wp2_with fail
        refine FD.out.mono ?_
        rintro e w1 ⟨rfl, b1⟩
        have T1 := Lib.hid (TK.out.nx b1)
        have HB1 := Lib.hid (nx HBK.out b1)
        have BX := Lib.hid (Blk.new w1 36 #[.int .u32 r.x, .int .i64 r.y, .int .u32 r.z, .int .i64 r.u])
        have T2 := Lib.hid (T1.out.nx (al (rf w1) (.cells #[.int .u32 r.x, .int .i64 r.y, .int .u32 r.z, .int .i64 r.u] 36)))
        have HB2 := Lib.hid (al HB1.out (.cells #[.int .u32 r.x, .int .i64 r.y, .int .u32 r.z, .int .i64 r.u] 36))
        have AL := Lib.hid T2.out.all
        clear b1
        go_wp2_with fail
        refine AL.out.mono ?_
        rintro e w2 ⟨v2, rfl, o2, b2⟩
        obtain ⟨A2, c2, hv2, hc2⟩ := o2.form
        subst hv2
        have O2 := Lib.hid o2
        have BX2 := Lib.hid (BX.out.nx b2)
        have HB3 := Lib.hid (nx HB2.out b2)
        obtain ⟨q, hq⟩ : ∃ q, L.length = q := ⟨_, rfl⟩
        have HQ := Lib.hid hq
        rw [hq] at hc2
        simp only [hq]
        have hq64 : q ≤ 64 := by rw [← hq]; exact HL64.out
        clear o2 b2 hq
        go_wp2
        go_loopw [10, 11] (fun fv iv wr => ∃ (f j : Nat), fv = .int .i64 f ∧ iv = .int .i64 j ∧ j ≤ q ∧ f ≤ j ∧ Hid (∀ (m : Nat) (y : R4), m < j → L[m]? = some y → fitR y a = true → 0 < f) ∧ Hid (Below w2.heap.size w2 wr)) (fun _ iv _ => q - (intOf iv).toNat)
        case atStart => exact ⟨0, 0, rfl, rfl, Nat.zero_le _, Nat.zero_le _, fun m y hm => absurd hm (Nat.not_lt_zero _), rf w2⟩
        case round =>
          obtain ⟨f, j, rfl, rfl, hj, hfj, HF, HBJ⟩ := hrel
          by_cases hjq : j < q
          · have j0 : (0 : Int) ≤ j := by omega
            have j1 : (j : Int) < q := by omega
            obtain ⟨x, hx⟩ : ∃ x, L[j]? = some x := ⟨_, List.getElem?_eq_getElem (by have := HQ.out; omega)⟩
            obtain ⟨g, hA, _, d0, d1, d2, d3⟩ := OwnL.cells (by have := O2.out.nx HBJ.out; rwa [HQ.out] at this) hx
            subst hA
            have hxL := List.mem_of_getElem? hx
            have HX := Lib.hid hx
            have FC := Lib.hid (fun W : World => fitsC x (HOK.out.wf x hxL) a HAA.out W)
            have HBX := Lib.hid (HBE.out x hxL)
            have HBJ2 := Lib.hid (al HBJ.out (.cells #[.int .u32 x.x, .int .i64 x.y, .int .u32 x.z, .int .i64 x.u] 36))
            have XN := Lib.hid (Blk.new wr 36 #[.int .u32 x.x, .int .i64 x.y, .int .u32 x.z, .int .i64 x.u])
            clear hx hxL
            cases hfx : fitR x a with
            | false =>
              rw [hfx] at FC
              have HF2 : Hid (∀ (m : Nat) (y : R4), m < j + 1 → L[m]? = some y → fitR y a = true → 0 < f) := fun m y hm hy hfy => by
                by_cases hmj : m = j
                · subst hmj; rw [HX.out] at hy; injection hy with hy; subst hy; rw [hfx] at hfy; cases hfy
                · exact HF.out m y (by omega) hy hfy
              clear hfx
              go_wp2_with fail
              refine (FC.out _).mono ?_
              rintro e w5 ⟨rfl, b5⟩
              have HB5 := Lib.hid (nx HBJ2.out b5)
              clear b5
              go_wp2
              go_roundw
              case rel => exact ⟨f, j + 1, rfl, by go_num, by omega, by omega, HF2.out, HB5.out⟩
              case measure => simp [intOf]; omega
            | true =>
              rw [hfx] at FC
              have hb := HBX.out hfx
              have f0 : (0 : Int) ≤ f := by omega
              have f1 : (f : Int) ≤ 64 := by omega
              clear hfx
              go_wp2_with fail
              refine (FC.out _).mono ?_
              rintro e w5 ⟨rfl, b5⟩
              have HB5 := Lib.hid (nx HBJ2.out b5)
              have RB := BX2.out.nx (nx HBJ2.out b5)
              have XB := XN.out.nx b5
              have r1 : w5.cell? ⟨w1.heap.size, 1, none⟩ = some (.int .i64 r.y) := RB.cell 1
              have r3 : w5.cell? ⟨w1.heap.size, 3, none⟩ = some (.int .i64 r.u) := RB.cell 3
              have z1 : w5.cell? ⟨wr.heap.size, 1, none⟩ = some (.int .i64 x.y) := XB.cell 1
              have z3 : w5.cell? ⟨wr.heap.size, 3, none⟩ = some (.int .i64 x.u) := XB.cell 3
              have t1 : decide (r.y < x.y) = false := by rw [decide_eq_false_iff_not]; omega
              clear b5 RB XB
              by_cases hyy : x.y = r.y
              · have t2 : (x.y == r.y) = true := by simpa using hyy
                have t3 : decide (x.u < r.u) = false := by rw [decide_eq_false_iff_not]; have := hb.2 hyy; omega
                clear hyy hb
                go_wp2
                go_roundw
                case rel => exact ⟨f + 1, j + 1, by go_num, by go_num, by omega, by omega, fun m y _ _ _ => by omega, HB5.out⟩
                case measure => simp [intOf]; omega
              · have t2 : (x.y == r.y) = false := by simpa using hyy
                clear hyy hb
                go_wp2
                go_roundw
                case rel => exact ⟨f + 1, j + 1, by go_num, by go_num, by omega, by omega, fun m y _ _ _ => by omega, HB5.out⟩
                case measure => simp [intOf]; omega
          · obtain rfl : j = q := by omega
            have hf0 : 0 < f := by
              obtain ⟨m, hm⟩ := List.getElem?_of_mem HRL.out
              exact HF.out m r (by have := (List.getElem?_eq_some_iff.1 hm).1; have := HQ.out; omega) hm HRF.out
            have f1 : (0 : Int) < f := by omega
            have HBJ3 := Lib.hid (nx HB3.out HBJ.out)
            have RB := BX2.out.nx HBJ.out
            have r0 : wr.cell? ⟨w1.heap.size, 0, none⟩ = some (.int .u32 r.x) := RB.cell 0
            have r1 : wr.cell? ⟨w1.heap.size, 1, none⟩ = some (.int .i64 r.y) := RB.cell 1
            have r2 : wr.cell? ⟨w1.heap.size, 2, none⟩ = some (.int .u32 r.z) := RB.cell 2
            have r3 : wr.cell? ⟨w1.heap.size, 3, none⟩ = some (.int .i64 r.u) := RB.cell 3
            clear RB
            go_wp2_with fail
            refine (FR.out _).mono ?_
            rintro e w5 ⟨rfl, b5⟩
            have HB5 := Lib.hid (nx HBJ3.out b5)
            clear b5 r0 r1 r2 r3
            go_wp2_with fail
            refine (known _).mono ?_
            rintro e w9 ⟨rfl, hb9⟩
            have HE := Lib.hid (nx HB5.out hb9)
            clear hb9
            go_wp2
            go_ret
            exact ⟨rfl, HE.out⟩
set_option maxRecDepth 100000 in
theorem routeFinds_lifted (os : Os) (started : os.Started) (H : Type) (enc : TypeId × Value → H) :
    ReturnsInHanded {} Try.checked os 3 .any (Rows.routeFindsSpec.pre6 enc Try.prog Try.f3 Rows.routeFindsRow.domain false) (Rows.routeFindsSpec.post enc Try.prog Try.f3 false true false false) :=
  law_lift started (by kernel_rfl) Try.func3
    (ChangeSpec.witness6 (enc := enc) (C := Try.checked) false ⟨#[], #[.slice none 0 0, .int .u32 0], []⟩ 8 (by kernel_rfl) (by kernel_rfl) (by kernel_rfl) (by kernel_rfl))
    rfl rfl Try.underlying4 (by kernel_rfl) (fun ds h => match ds, h with | [_, _], _ => rfl)
    (fun W base args ds p hval hA hsz => by
      rw [Try.params3] at hA hval
      have hsz' := hsz
      rw [Try.params3] at hsz'
      obtain ⟨v0, v1, d0, d1, p0, p1, rfl, rfl, rfl, h0, h1⟩ := trodAll_two hA
      obtain ⟨A, n, c, L, rfl, h2, h3, h4⟩ := open_routes (hval 0 22 v0 rfl rfl) h0
      obtain ⟨a, rfl, ha⟩ := open_addr (hval 1 24 v1 rfl rfl) h1
      exact routeFinds_walk A n c L a W h2 h3 h4 ha)
theorem routeFinds_holds : Rows.RouteFindsSaid :=
  OpenClaim.holds_of_wide 3 Try.f3 rfl rfl rfl rfl rfl rfl rfl ⟨rfl, rfl, rfl, rfl, rfl⟩ rfl rfl rfl rfl rfl (by kernel_rfl) Try.func3 (by kernel_rfl)
    (of_decide_eq_true (by kernel_rfl)) (by unfold Func.isWrapper; rw [if_neg (of_decide_eq_false (by kernel_rfl))]; exact ⟨rfl, rfl⟩)
    (fun os started H enc _ => routeFinds_lifted os started H enc)

end Go.Proofs.Ytmboadgmhafedaa
