/-
  RouteForgets: for every list of routes and route the law 'a route that is added and removed again leaves all as it was' returns true. No conditions.
-/
import Derived.Test.YtmboadgmhafedaaRo4
import Derived.Test.YtmboadgmhafedaaTr12
set_option linter.unusedVariables false
namespace Go.Proofs.Ytmboadgmhafedaa
open Go.ChangeShapes Go.WideShapes Go.ChangeAt Go.RowKit

-- a table, and a row apart from it
def OneR (w : World) (B t : Nat) (L : List R4) (v : Value) (M : List R4) : Prop := ∃ T b, Tab w B t L T ∧ OwnL w b v M ∧ ∀ g, v.ownBlock = some g → ¬ Foot T g
section
variable {w w' : World} {B t : Nat} {L M : List R4} {v : Value} {T T' : Tre}
theorem OneR.nx (h : OneR w B t L v M) (k : Below w.heap.size w w') : OneR w' B t L v M := by
  obtain ⟨T, b, h1, h2, h3⟩ := h
  exact ⟨T, b, h1.nx k, h2.nx k, h3⟩
theorem OneR.own (h : OneR w B t L v M) : ∃ b, OwnL w b v M := by
  obtain ⟨T, b, h1, h2, h3⟩ := h
  exact ⟨b, h2⟩
theorem OneR.step {b : Nat} {L' : List R4} (h1 : Tab w B t L T) (h2 : OwnL w b v M) (h3 : ∀ g, v.ownBlock = some g → ¬ Foot T g) (k1 : Tab w' B t L' T') (k2 : Gs w w' T T') : OneR w' B t L' v M :=
  ⟨T', b, k1, k2.keep.own h2 h3, fun g hg hf => (k2.ft g hf).elim (h3 g hg) (fun h4 => by have := (own_lo h2 hg).2; omega)⟩
theorem OneR.add (h : OneR w B t L v M) (r : R4) (hr : InU r) :
    Calls Try.prog 9 #[.pointer (some ⟨t, 0, none⟩), .agg #[.int .u32 r.x, .int .i64 r.y, .int .u32 r.z, .int .i64 r.u]] w fun e w' => e = .returned (.int .i64 (addL L r).2) ∧ OneR w' B t (addL L r).1 v M ∧ Below B w w' := by
  obtain ⟨T, b, h1, h2, h3⟩ := h
  refine (addK w h1 r hr).mono ?_
  rintro e w' ⟨T', rfl, k1, k2⟩
  exact ⟨rfl, OneR.step h1 h2 h3 k1 k2, k2.below h1⟩
theorem OneR.rem (h : OneR w B t L v M) (r : R4) (hr : InU r) :
    Calls Try.prog 15 #[.pointer (some ⟨t, 0, none⟩), .agg #[.int .u32 r.x, .int .i64 r.y, .int .u32 r.z, .int .i64 r.u]] w fun e w' => e = .returned (.int .i64 (remL L r).2) ∧ OneR w' B t (remL L r).1 v M ∧ Below B w w' := by
  obtain ⟨T, b, h1, h2, h3⟩ := h
  refine (remK w h1 r hr).mono ?_
  rintro e w' ⟨T', rfl, k1, k2⟩
  exact ⟨rfl, OneR.step h1 h2 h3 k1 k2, k2.below h1⟩
theorem OneR.all (h : OneR w B t L v M) : Calls Try.prog 11 #[.pointer (some ⟨t, 0, none⟩)] w (AllP w L) := by
  obtain ⟨T, b, h1, h2, h3⟩ := h
  exact allK w h1
theorem OneR.ok (h : OneR w B t L v M) : TabOK L := by
  obtain ⟨T, b, h1, h2, h3⟩ := h
  exact h1.ok
theorem OneR.of (h1 : Tab w B t L T) {M : List R4} (o : OwnL w' w.heap.size v M) (k : Below w.heap.size w w') : OneR w' B t L v M :=
  ⟨T, w.heap.size, h1.nx k, o, fun g hg hf => by have := (own_lo o hg).1; have := (h1.tr.foot hf).2; omega⟩
end
set_option maxRecDepth 10000 in
set_option maxHeartbeats 3200000 in
theorem routeForgets_walk (A : Option Addr) (n c : Nat) (l : List R4) (r : R4) (w : World) (hn : n ≤ c) (hm : c ≤ maxLen) (hA : IsL w A n l) (hru : InU r) :
    Calls Try.prog 6 #[.slice A n c, .agg #[.int .u32 r.x, .int .i64 r.y, .int .u32 r.z, .int .i64 r.u]] w fun e w' => e = .returned (.bool true) ∧ Below w.heap.size w w' := by
  unfold maxLen at hm
  have X0 := Lib.hid (Blk.new w 36 #[.int .u32 r.x, .int .i64 r.y, .int .u32 r.z, .int .i64 r.u])
  have B0 := Lib.hid (al (rf w) (.cells #[.int .u32 r.x, .int .i64 r.y, .int .u32 r.z, .int .i64 r.u] 36))
  have HA := Lib.hid (hA.nx B0.out)
  have HRU := Lib.hid hru
  clear hA hru
  by_cases h64 : n ≤ 200
  rotate_left
  · have e64 : decide ((200 : Int) < n) = true := by rw [decide_eq_true_eq]; omega
    clear h64
    go_enter Try.func6, Try.ntmps6
    go_wp2_with fail
    refine (known _).mono ?_
    rintro e w9 ⟨rfl, hb9⟩
    have HE := Lib.hid (nx B0.out hb9)
    clear hb9
    go_wp2
    go_ret
    exact ⟨rfl, HE.out⟩
  have e64 : decide ((200 : Int) < n) = false := by rw [decide_eq_false_iff_not]; omega
  go_enter Try.func6, Try.ntmps6
  have e1 : (w.alloc (.cells #[.int .u32 r.x, .int .i64 r.y, .int .u32 r.z, .int .i64 r.u] 36)).heap.size = w.heap.size + 1 := by simp
  have tw := one_new (w.alloc (.cells #[.int .u32 r.x, .int .i64 r.y, .int .u32 r.z, .int .i64 r.u] 36))
  rw [e1] at tw
  have TW := Lib.hid tw
  have EQ := Lib.hid e1
  have HBW := Lib.hid (al (rf (w.alloc (.cells #[.int .u32 r.x, .int .i64 r.y, .int .u32 r.z, .int .i64 r.u] 36))) (.cells #[.slice none 0 0, .pointer none, .pointer none, .int .i64 0] 32))
  clear tw e1
  go_wp2
  generalize w.alloc (.cells #[.int .u32 r.x, .int .i64 r.y, .int .u32 r.z, .int .i64 r.u] 36) = W0 at X0 B0 HA TW EQ HBW ⊢
  generalize W0.alloc (.cells #[.slice none 0 0, .pointer none, .pointer none, .int .i64 0] 32) = W at TW HBW ⊢
  go_loopw [6] (fun iv wr => ∃ k : Nat, iv = .int .i64 k ∧ k ≤ n ∧ Hid (One wr (w.heap.size + 1) (w.heap.size + 1) (addAll (l.take k))) ∧ Hid (Below W0.heap.size W0 wr)) (fun iv _ => n - (intOf iv).toNat)
  case atStart => exact ⟨0, rfl, Nat.zero_le _, TW.out, HBW.out⟩
  case round =>
    obtain ⟨k, rfl, hk, TK, HBK⟩ := hrel
    by_cases hki : k < n
    · have k0 : (0 : Int) ≤ k := by omega
      have k1 : (k : Int) < n := by omega
      obtain ⟨ad, x, hAd, _, hx, hxu, hcx⟩ := (HA.out.nx HBK.out).at_ hki
      subst hAd
      have EX := Lib.hid (addAll_succ hx)
      have x0 : wr.cell? (ad.add (k * 4)) = some (.int .u32 x.x) := hcx 0 _ rfl
      have x1 : wr.cell? ⟨(ad.add (k * 4)).block, (ad.add (k * 4)).off + 1, none⟩ = some (.int .i64 x.y) := hcx 1 _ rfl
      have x2 : wr.cell? ⟨(ad.add (k * 4)).block, (ad.add (k * 4)).off + 2, none⟩ = some (.int .u32 x.z) := hcx 2 _ rfl
      have x3 : wr.cell? ⟨(ad.add (k * 4)).block, (ad.add (k * 4)).off + 3, none⟩ = some (.int .i64 x.u) := hcx 3 _ rfl
      have A1 := Lib.hid (TK.out.add x hxu)
      clear hcx hx hxu
      go_wp2_with fail
      refine A1.out.mono ?_
      rintro e w1 ⟨rfl, T1, b1⟩
      have HT1 : Hid (One w1 (w.heap.size + 1) (w.heap.size + 1) (addAll (l.take (k + 1)))) := by show One _ _ _ _; rw [EX.out]; exact T1
      have HB1 := Lib.hid (HBK.out.trans (by rw [EQ.out]; exact b1))
      clear T1 b1 x0 x1 x2 x3
      go_wp2
      go_roundw
      case rel => exact ⟨k + 1, by go_num, by omega, HT1.out, HB1.out⟩
      case measure => simp [intOf]; omega
    · obtain rfl : k = n := by omega
      obtain ⟨L, hL⟩ : ∃ L, addAll (l.take k) = L := ⟨_, rfl⟩
      rw [hL] at TK
      clear hL
      have HOK := Lib.hid TK.out.ok
      have HL64 : Hid (L.length ≤ 64) := HOK.out.len
      clear HA TW HBW
      obtain ⟨T, hT⟩ := TK.out
      have AL := Lib.hid (allK wr hT)
      have HTT := Lib.hid hT
      clear hT
      go_wp2_with fail
      refine AL.out.mono ?_
      rintro e w1 ⟨v1, rfl, o1, b1⟩
      have R1 := Lib.hid (OneR.of HTT.out o1 b1)
      obtain ⟨A1, c1, hv1, hc1⟩ := o1.form
      subst hv1
      have B1 := Lib.hid (nx HBK.out b1)
      have XX := X0.out.nx B1.out
      have x0 := XX.cell 0
      have x1 := XX.cell 1
      have x2 := XX.cell 2
      have x3 := XX.cell 3
      simp only [List.getElem?_toArray, List.getElem?_cons_zero, List.getElem?_cons_succ] at x0 x1 x2 x3
      have AD := Lib.hid (R1.out.add r HRU.out)
      clear o1 b1 XX
      go_wp2_with fail
      refine AD.out.mono ?_
      rintro e w2 ⟨rfl, t2, b2⟩
      have R2 := Lib.hid t2
      have B2 := Lib.hid (B1.out.trans (by rw [EQ.out]; exact b2))
      clear t2 b2 x0 x1 x2 x3
      by_cases h0 : (addL L r).2 = 0
      · obtain ⟨f1, f2, f3, f4⟩ := forget HOK.out h0
        obtain ⟨L2, hL2⟩ : ∃ L2, (addL L r).1 = L2 := ⟨_, rfl⟩
        rw [hL2] at R2 f1 f2 f3
        rw [h0]
        have F2 := Lib.hid f2
        have F3 := Lib.hid f3
        have F4 := Lib.hid f4
        obtain ⟨q, hq⟩ : ∃ q, L.length = q := ⟨_, rfl⟩
        rw [hq] at f1
        simp only [hq]
        have hq64 : q ≤ 64 := by rw [← hq]; exact HL64.out
        have AL2 := Lib.hid R2.out.all
        have HQ := Lib.hid hq
        have hF1 := Lib.hid f1
        clear h0 f1 f2 f3 f4 hq hL2
        go_wp2_with fail
        refine AL2.out.mono ?_
        rintro e w3 ⟨v3, rfl, o3, b3⟩
        obtain ⟨A3, c3, hv3, hc3⟩ := o3.form
        subst hv3
        have R3 := Lib.hid (R2.out.nx b3)
        have B3 := Lib.hid (nx B2.out b3)
        have RM := Lib.hid (R3.out.rem r HRU.out)
        rw [F2.out] at RM
        have XX := X0.out.nx B3.out
        have x0 := XX.cell 0
        have x1 := XX.cell 1
        have x2 := XX.cell 2
        have x3 := XX.cell 3
        simp only [List.getElem?_toArray, List.getElem?_cons_zero, List.getElem?_cons_succ] at x0 x1 x2 x3
        rw [hF1.out] at hc3
        simp only [hF1.out]
        have qq : (((q + 1 : Nat) : Int) == (q : Int) + 1) = true := by simp
        clear o3 b3 XX
        go_wp2_with fail
        refine RM.out.mono ?_
        rintro e w4 ⟨rfl, t4, b4⟩
        rw [F3.out] at t4
        have R4' := Lib.hid t4
        have B4 := Lib.hid (B3.out.trans (by rw [EQ.out]; exact b4))
        have AL4 := Lib.hid R4'.out.all
        clear t4 b4 x0 x1 x2 x3
        go_wp2_with fail
        refine AL4.out.mono ?_
        rintro e w5 ⟨v5, rfl, o5, b5⟩
        have O5 := Lib.hid o5
        have R5 := Lib.hid (R4'.out.nx b5)
        have B5 := Lib.hid (nx B4.out b5)
        obtain ⟨bb, ow⟩ := R5.out.own
        have RK := Lib.hid (rowsK w5 o5 ow (Nat.le_trans HL64.out (by decide)))
        obtain ⟨A5, c5, hv5, hc5⟩ := o5.form
        subst hv5
        rw [HQ.out] at RK
        simp only [HQ.out]
        clear o5 b5 ow
        go_wp2_with fail
        refine RK.out.mono ?_
        rintro e w6 ⟨rfl, b6⟩
        have R6 := Lib.hid (R5.out.nx b6)
        have B6 := Lib.hid (nx B5.out b6)
        have RM6 := Lib.hid (R6.out.rem r HRU.out)
        rw [F4.out] at RM6
        have XX := X0.out.nx B6.out
        have x0 := XX.cell 0
        have x1 := XX.cell 1
        have x2 := XX.cell 2
        have x3 := XX.cell 3
        simp only [List.getElem?_toArray, List.getElem?_cons_zero, List.getElem?_cons_succ] at x0 x1 x2 x3
        clear b6 XX
        go_wp2_with fail
        refine RM6.out.mono ?_
        rintro e w7 ⟨rfl, t7, b7⟩
        have B7 := Lib.hid (B6.out.trans (by rw [EQ.out]; exact b7))
        clear t7 b7 x0 x1 x2 x3
        go_wp2_with fail
        refine (known _).mono ?_
        rintro e w9 ⟨rfl, hb9⟩
        have HE := Lib.hid (nx B0.out (nx B7.out hb9))
        clear hb9
        go_wp2
        go_ret
        exact ⟨rfl, HE.out⟩
      · have hs : (addL L r).1 = L := by
          unfold addL at h0 ⊢
          split
          · rename_i h1
            rw [if_pos h1] at h0
            split
            · rfl
            · rename_i h2
              rw [if_neg h2] at h0
              split
              · rfl
              · rename_i h3
                rw [if_neg h3] at h0
                exact absurd rfl h0
          · rfl
        rw [hs] at R2
        obtain ⟨E, hE⟩ : ∃ E, (addL L r).2 = E := ⟨_, rfl⟩
        rw [hE] at h0 ⊢
        have e0 : (E != 0) = true := by simpa using h0
        have AL2 := Lib.hid R2.out.all
        clear h0 hs hE
        go_wp2_with fail
        refine AL2.out.mono ?_
        rintro e w5 ⟨v5, rfl, o5, b5⟩
        have R5 := Lib.hid (R2.out.nx b5)
        have B5 := Lib.hid (nx B2.out b5)
        obtain ⟨bb, ow⟩ := R5.out.own
        have RK := Lib.hid (rowsK w5 o5 ow (Nat.le_trans HL64.out (by decide)))
        obtain ⟨A5, c5, hv5, hc5⟩ := o5.form
        subst hv5
        clear o5 b5 ow
        go_wp2_with fail
        refine RK.out.mono ?_
        rintro e w6 ⟨rfl, b6⟩
        have B6 := Lib.hid (nx B5.out b6)
        clear b6
        go_wp2_with fail
        refine (known _).mono ?_
        rintro e w9 ⟨rfl, hb9⟩
        have HE := Lib.hid (nx B0.out (nx B6.out hb9))
        clear hb9
        go_wp2
        go_ret
        exact ⟨rfl, HE.out⟩
theorem open_r4 {H : Type} {enc : TypeId × Value → H} {w : World} {base b0 : Nat} {r : Reach} {sp : Nat → Bool} {held : Bool} {v : Value} {d : DataW H} {p : List MemPlace}
    (hv : Value.okWide Try.prog w r b0 36 v) (h : DataW.Trod enc Try.prog w base sp held 36 v d p) : ∃ s : R4, v = .agg #[.int .u32 s.x, .int .i64 s.y, .int .u32 s.z, .int .i64 s.u] ∧ InU s := by
  obtain ⟨cs, rfl, hsz⟩ := okWide_struct Try.underlying36 hv
  obtain ⟨fuel, hf⟩ := h
  have c3 : Try.prog.cellsOf 36 = 4 := by kernel_rfl
  rw [c3] at hsz
  obtain ⟨l⟩ := cs
  obtain ⟨s, h1, h2⟩ := trod_r4 (cs := l) (by simpa using hsz) hf
  subst h1
  exact ⟨s, rfl, h2⟩
set_option maxRecDepth 100000 in
theorem routeForgets_lifted (os : Os) (started : os.Started) (H : Type) (enc : TypeId × Value → H) :
    ReturnsInHanded {} Try.checked os 6 .any (Rows.routeForgetsSpec.pre6 enc Try.prog Try.f6 Rows.routeForgetsRow.domain false) (Rows.routeForgetsSpec.post enc Try.prog Try.f6 false true false false) :=
  law_lift started (by kernel_rfl) Try.func6
    (ChangeSpec.witness6 (enc := enc) (C := Try.checked) false ⟨#[], #[.slice none 0 0, .agg #[.int .u32 0, .int .i64 0, .int .u32 0, .int .i64 0]], []⟩ 8 (by kernel_rfl) (by kernel_rfl) (by kernel_rfl) (by kernel_rfl))
    rfl rfl Try.underlying4 (by kernel_rfl) (fun ds h => match ds, h with | [_, _], _ => rfl)
    (fun W base args ds p hval hA hsz => by
      rw [Try.params6] at hA hval
      have hsz' := hsz
      rw [Try.params6] at hsz'
      obtain ⟨v0, v1, d0, d1, p0, p1, rfl, rfl, rfl, h0, h1⟩ := trodAll_two hA
      obtain ⟨A, n, c, L, rfl, h2, h3, h4⟩ := open_routes (hval 0 22 v0 rfl rfl) h0
      obtain ⟨s, rfl, hs⟩ := open_r4 (hval 1 36 v1 rfl rfl) h1
      exact routeForgets_walk A n c L s W h2 h3 h4 hs)
theorem routeForgets_holds : Rows.RouteForgetsSaid :=
  OpenClaim.holds_of_wide 6 Try.f6 rfl rfl rfl rfl rfl rfl rfl ⟨rfl, rfl, rfl, rfl, rfl⟩ rfl rfl rfl rfl rfl (by kernel_rfl) Try.func6 (by kernel_rfl)
    (of_decide_eq_true (by kernel_rfl)) (by unfold Func.isWrapper; rw [if_neg (of_decide_eq_false (by kernel_rfl))]; exact ⟨rfl, rfl⟩)
    (fun os started H enc _ => routeForgets_lifted os started H enc)

end Go.Proofs.Ytmboadgmhafedaa
