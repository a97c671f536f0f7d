/-
  RouteOrder: for every list of routes the law 'in whatever order routes are added, they stand in one order' returns true. No conditions.
-/
import Derived.Test.YtmboadgmhafedaaRo2
import Derived.Test.YtmboadgmhafedaaLaw
import Derived.Test.YtmboadgmhafedaaOpn
set_option linter.unusedVariables false
namespace Go.Proofs.Ytmboadgmhafedaa
open Go.ChangeShapes Go.WideShapes Go.ChangeAt Go.RowKit

set_option maxRecDepth 10000 in
set_option maxHeartbeats 3200000 in
theorem routeOrder_walk (A : Option Addr) (n c : Nat) (l : List R4) (w : World) (hn : n ≤ c) (hm : c ≤ maxLen) (hA : IsL w A n l) :
    Calls Try.prog 4 #[.slice A n c] w fun e w' => e = .returned (.bool true) ∧ Below w.heap.size w w' := by
  unfold maxLen at hm
  have HA := Lib.hid hA
  clear hA
  by_cases h64 : n ≤ 64
  rotate_left
  · have e64 : decide ((64 : Int) < n) = true := by rw [decide_eq_true_eq]; omega
    clear h64
    go_enter Try.func4, Try.ntmps4
    go_wp2_with fail
    refine (known _).mono ?_
    rintro e w9 ⟨rfl, hb9⟩
    go_wp2
    go_ret
    exact ⟨rfl, hb9⟩
  have e64 : decide ((64 : Int) < n) = false := by rw [decide_eq_false_iff_not]; omega
  go_enter Try.func4, Try.ntmps4
  go_wp2
  go_loopw [3] (fun iv wr => ∃ i : Nat, iv = .int .i64 i ∧ i ≤ n ∧ Hid (∀ (j m : Nat) (x y : R4), m < j → j < i → l[j]? = some x → l[m]? = some y → ¬ keyP x y) ∧ Hid (Below w.heap.size w wr)) (fun iv _ => n - (intOf iv).toNat)
  case atStart => exact ⟨0, rfl, Nat.zero_le _, fun j m x y _ hj => absurd hj (Nat.not_lt_zero _), rf w⟩
  case round =>
    obtain ⟨i, rfl, hi, HNO, HB⟩ := hrel
    by_cases hin : i < n
    · have i0 : (0 : Int) ≤ i := by omega
      have i1 : (i : Int) < n := by omega
      obtain ⟨wo, hwo⟩ : ∃ wo, wo = wr := ⟨_, rfl⟩
      subst hwo
      obtain ⟨ad, x, hAd, _, hx, _, _⟩ := (HA.out.nx HB.out).at_ hin
      subst hAd
      have HX := Lib.hid hx
      clear hx
      go_wp2
      go_loopw [4] (fun kv wr => ∃ k : Nat, kv = .int .i64 k ∧ k ≤ i ∧ Hid (∀ (m : Nat) (y : R4), m < k → l[m]? = some y → ¬ keyP x y) ∧ Hid (Below w.heap.size w wr)) (fun kv _ => i - (intOf kv).toNat)
      case atStart => exact ⟨0, rfl, Nat.zero_le _, fun m y hm => absurd hm (Nat.not_lt_zero _), HB.out⟩
      case round =>
        obtain ⟨k, rfl, hk, HN2, HB2⟩ := hrel
        by_cases hki : k < i
        · have k0 : (0 : Int) ≤ k := by omega
          have k1 : (k : Int) < i := by omega
          have k2 : (k : Int) < n := by omega
          have LL := HA.out.nx HB2.out
          obtain ⟨ad1, x1, hAd1, _, hx1, _, hcx⟩ := LL.at_ hin
          injection hAd1 with hAd1
          subst hAd1
          have hx2 := hx1.symm.trans HX.out
          injection hx2 with hx2
          subst hx2
          obtain ⟨ad1, y, hAd1, _, hy, _, hcy⟩ := LL.at_ (show k < n by omega)
          injection hAd1 with hAd1
          subst hAd1
          have x0 : wr.cell? (ad.add (i * 4)) = some (.int .u32 x1.x) := hcx 0 _ rfl
          have x1' : wr.cell? ⟨(ad.add (i * 4)).block, (ad.add (i * 4)).off + 1, none⟩ = some (.int .i64 x1.y) := hcx 1 _ rfl
          have x3 : wr.cell? ⟨(ad.add (i * 4)).block, (ad.add (i * 4)).off + 3, none⟩ = some (.int .i64 x1.u) := hcx 3 _ rfl
          have y0 : wr.cell? (ad.add (k * 4)) = some (.int .u32 y.x) := hcy 0 _ rfl
          have y1 : wr.cell? ⟨(ad.add (k * 4)).block, (ad.add (k * 4)).off + 1, none⟩ = some (.int .i64 y.y) := hcy 1 _ rfl
          have y3 : wr.cell? ⟨(ad.add (k * 4)).block, (ad.add (k * 4)).off + 3, none⟩ = some (.int .i64 y.u) := hcy 3 _ rfl
          have HBD := Lib.hid (nx HB2.out (rf wr).drew)
          have ST : Hid (¬ keyP x1 y → ∀ (m : Nat) (q : R4), m < k + 1 → l[m]? = some q → ¬ keyP x1 q) := fun hno m q hm hq => by
            by_cases hmk : m = k
            · subst hmk; rw [hy] at hq; injection hq with hq; subst hq; exact hno
            · exact HN2.out m q (by omega) hq
          clear LL hcx hcy hx1 hy
          by_cases e1 : x1.x = y.x
          · by_cases e2 : x1.y = y.y
            · by_cases e3 : x1.u = y.u
              · have q1 : (x1.x == y.x) = true := by simpa using e1
                have q2 : (x1.y == y.y) = true := by simpa using e2
                have q3 : (x1.u == y.u) = true := by simpa using e3
                clear e1 e2 e3
                go_wp2
                go_region
                go_wp2_with fail
                refine (known _).mono ?_
                rintro e w9 ⟨rfl, hb9⟩
                have HE := Lib.hid (nx HBD.out hb9)
                clear hb9
                go_wp2
                go_ret
                exact ⟨rfl, HE.out⟩
              · have q1 : (x1.x == y.x) = true := by simpa using e1
                have q2 : (x1.y == y.y) = true := by simpa using e2
                have q3 : (x1.u == y.u) = false := by simpa using e3
                have N2 := Lib.hid (ST.out fun h => e3 h.2.2)
                clear e1 e2 e3
                go_wp2
                go_region
                go_wp2
                go_roundw
                case rel => exact ⟨k + 1, by go_num, by omega, N2.out, HBD.out⟩
                case measure => simp [intOf]; omega
            · have q1 : (x1.x == y.x) = true := by simpa using e1
              have q2 : (x1.y == y.y) = false := by simpa using e2
              have N2 := Lib.hid (ST.out fun h => e2 h.2.1)
              clear e1 e2
              go_wp2
              go_region
              go_wp2
              go_roundw
              case rel => exact ⟨k + 1, by go_num, by omega, N2.out, HBD.out⟩
              case measure => simp [intOf]; omega
          · have q1 : (x1.x == y.x) = false := by simpa using e1
            have N2 := Lib.hid (ST.out fun h => e1 h.1)
            clear e1
            go_wp2
            go_region
            go_wp2
            go_roundw
            case rel => exact ⟨k + 1, by go_num, by omega, N2.out, HBD.out⟩
            case measure => simp [intOf]; omega
        · obtain rfl : k = i := by omega
          have N3 : Hid (∀ (j m : Nat) (x y : R4), m < j → j < k + 1 → l[j]? = some x → l[m]? = some y → ¬ keyP x y) := fun j m x' y hmj hj hxj hym => by
            by_cases hjk : j = k
            · subst hjk
              rw [HX.out] at hxj
              injection hxj with hxj
              subst hxj
              exact HN2.out m y hmj hym
            · exact HNO.out j m x' y hmj (by omega) hxj hym
          go_wp2
          go_roundw
          case rel => exact ⟨k + 1, by go_num, by omega, N3.out, HB2.out⟩
          case measure => simp [intOf]; omega
    · obtain rfl : i = n := by omega
      have HP : Hid (l.Pairwise (fun x y => ¬ keyP x y)) := pair_of (fun j m x y hmj hx hy => HNO.out j m x y hmj (by have := (List.getElem?_eq_some_iff.1 hx).1; have := HA.out.len; omega) hx hy)
      obtain ⟨wo, hwo⟩ : ∃ wo, wo = wr := ⟨_, rfl⟩
      subst hwo
      have TW := Lib.hid (two_new wo)
      have HB3 : Hid (Below w.heap.size w ((wo.alloc (.cells #[.slice none 0 0, .pointer none, .pointer none, .int .i64 0] 32)).alloc (.cells #[.slice none 0 0, .pointer none, .pointer none, .int .i64 0] 32))) := al (al HB.out _) _
      have hwz : Hid (w.heap.size ≤ wo.heap.size) := HB.out.size
      clear HNO HB
      go_wp2
      obtain ⟨B, hB⟩ : ∃ B, wo.heap.size = B := ⟨_, rfl⟩
      have HBI := Lib.hid hB
      simp only [hB] at TW hwz ⊢
      clear hB
      generalize ((wo.alloc (.cells #[.slice none 0 0, .pointer none, .pointer none, .int .i64 0] 32)).alloc (.cells #[.slice none 0 0, .pointer none, .pointer none, .int .i64 0] 32)) = W at TW HB3 ⊢
      go_loopw [7] (fun iv wr => ∃ k : Nat, iv = .int .i64 k ∧ k ≤ i ∧ Hid (Two wr B B (B + 1) (addAll (l.take k)) (addAll (l.reverse.take k))) ∧ Hid (Below w.heap.size w wr)) (fun iv _ => i - (intOf iv).toNat)
      case atStart => exact ⟨0, rfl, Nat.zero_le _, TW.out, HB3.out⟩
      case round =>
        obtain ⟨k, rfl, hk, TK, HBK⟩ := hrel
        by_cases hki : k < i
        · have k0 : (0 : Int) ≤ k := by omega
          have k1 : (k : Int) < i := by omega
          obtain ⟨m, hm⟩ : ∃ m, i - 1 - k = m := ⟨_, rfl⟩
          have hmi : m < i := by omega
          have hm2 : (i : Int) - 1 - k = m := by omega
          have m0 : (0 : Int) ≤ m := by omega
          have m1 : (m : Int) < i := by omega
          have hib : (i : Int) ≤ 64 := by omega
          have LL := HA.out.nx HBK.out
          obtain ⟨ad, x, hAd, _, hx, hxu, hcx⟩ := LL.at_ hki
          subst hAd
          obtain ⟨ad1, y, hAd1, _, hy, hyu, _⟩ := LL.at_ hmi
          injection hAd1 with hAd1
          subst hAd1
          have hyr : l.reverse[k]? = some y := by
            rw [List.getElem?_reverse (by have := HA.out.len; omega), ← hy]
            congr 1
            have := HA.out.len
            omega
          have EX := Lib.hid (addAll_succ hx)
          have EY := Lib.hid (addAll_succ hyr)
          have HY := Lib.hid hy
          have HYU := Lib.hid hyu
          have x0 : wr.cell? (ad.add (k * 4)) = some (.int .u32 x.x) := hcx 0 _ rfl
          have x1 : wr.cell? ⟨(ad.add (k * 4)).block, (ad.add (k * 4)).off + 1, none⟩ = some (.int .i64 x.y) := hcx 1 _ rfl
          have x2 : wr.cell? ⟨(ad.add (k * 4)).block, (ad.add (k * 4)).off + 2, none⟩ = some (.int .u32 x.z) := hcx 2 _ rfl
          have x3 : wr.cell? ⟨(ad.add (k * 4)).block, (ad.add (k * 4)).off + 3, none⟩ = some (.int .i64 x.u) := hcx 3 _ rfl
          have A1 := Lib.hid (TK.out.add1 x hxu)
          clear LL hcx hx hy hyu hxu hyr hm hmi
          go_wp2_with fail
          refine A1.out.mono ?_
          rintro e w1 ⟨rfl, T1, b1⟩
          have HT1 := Lib.hid T1
          have HB1 := Lib.hid (HBK.out.trans (b1.mono hwz.out))
          obtain ⟨ad1, y1, hAd1, _, hy1, hyu1, hcy⟩ := (HA.out.nx HB1.out).at_ (show m < i by omega)
          injection hAd1 with hAd1
          subst hAd1
          have hyy := hy1.symm.trans HY.out
          injection hyy with hyy
          subst hyy
          have y0 : w1.cell? (ad.add (m * 4)) = some (.int .u32 y1.x) := hcy 0 _ rfl
          have yy1 : w1.cell? ⟨(ad.add (m * 4)).block, (ad.add (m * 4)).off + 1, none⟩ = some (.int .i64 y1.y) := hcy 1 _ rfl
          have y2 : w1.cell? ⟨(ad.add (m * 4)).block, (ad.add (m * 4)).off + 2, none⟩ = some (.int .u32 y1.z) := hcy 2 _ rfl
          have y3 : w1.cell? ⟨(ad.add (m * 4)).block, (ad.add (m * 4)).off + 3, none⟩ = some (.int .i64 y1.u) := hcy 3 _ rfl
          have A2 := Lib.hid (HT1.out.add2 y1 hyu1)
          clear T1 b1 hy1 hyu1 hcy x0 x1 x2 x3
          go_wp2_with fail
          refine A2.out.mono ?_
          rintro e w2 ⟨rfl, T2, b2⟩
          have HT2 : Hid (Two w2 B B (B + 1) (addAll (l.take (k + 1))) (addAll (l.reverse.take (k + 1)))) := by
            show Two _ _ _ _ _ _
            rw [EX.out, EY.out]
            exact T2
          have HB2 := Lib.hid (HB1.out.trans (b2.mono hwz.out))
          clear T2 b2 y0 yy1 y2 y3
          go_wp2
          go_roundw
          case rel => exact ⟨k + 1, by go_num, by omega, HT2.out, HB2.out⟩
          case measure => simp [intOf]; omega
        · obtain rfl : k = i := by omega
          have hl1 : l.take k = l := List.take_of_length_le (by have := HA.out.len; omega)
          have hl2 : l.reverse.take k = l.reverse := List.take_of_length_le (by rw [List.length_reverse]; have := HA.out.len; omega)
          have heq := order_eq (l := l) (by have := HA.out.len; omega) HA.out.inu HP.out
          have TE : Hid (Two wr B B (B + 1) (addAll l) (addAll l)) := by
            show Two _ _ _ _ _ _
            have := TK.out
            rw [hl1, hl2, ← heq] at this
            exact this
          clear hl1 hl2 heq
          obtain ⟨Ta, Tb, ha, hb, _⟩ := TE.out.two
          have AA := Lib.hid (allK wr ha)
          clear hb
          go_wp2_with fail
          refine AA.out.mono ?_
          rintro e w1 ⟨v1, rfl, o1, b1⟩
          have O1 := Lib.hid o1
          have HB1 := Lib.hid (nx HBK.out b1)
          obtain ⟨Tc, Td, _, hd, _⟩ := (TE.out.nx b1).two
          have AD := Lib.hid (allK w1 hd)
          obtain ⟨A1, c1, hv1, _⟩ := o1.form
          subst hv1
          clear ha o1 b1 hd
          go_wp2_with fail
          refine AD.out.mono ?_
          rintro e w2 ⟨v2, rfl, o2, b2⟩
          have O2 := Lib.hid o2
          have O1b := Lib.hid (O1.out.nx b2)
          have HB2 := Lib.hid (nx HB1.out b2)
          have hl64 : (addAll l).length ≤ 1000 := Nat.le_trans (addAll_ok HA.out.inu).len (by decide)
          have RK := Lib.hid (rowsK w2 O1b.out O2.out hl64)
          obtain ⟨A2, c2, hv2, _⟩ := o2.form
          subst hv2
          clear o2 b2 hl64
          go_wp2_with fail
          refine RK.out.mono ?_
          rintro e w3 ⟨rfl, b3⟩
          have HB4 := Lib.hid (nx HB2.out b3)
          clear b3
          go_wp2_with fail
          refine (known _).mono ?_
          rintro e w9 ⟨rfl, hb9⟩
          have HE := Lib.hid (nx HB4.out hb9)
          clear hb9
          go_wp2
          go_ret
          exact ⟨rfl, HE.out⟩
set_option maxRecDepth 100000 in
theorem routeOrder_lifted (os : Os) (started : os.Started) (H : Type) (enc : TypeId × Value → H) :
    ReturnsInHanded {} Try.checked os 4 .any (Rows.routeOrderSpec.pre6 enc Try.prog Try.f4 Rows.routeOrderRow.domain false) (Rows.routeOrderSpec.post enc Try.prog Try.f4 false true false false) :=
  law_lift started (by kernel_rfl) Try.func4
    (ChangeSpec.witness6 (enc := enc) (C := Try.checked) false ⟨#[], #[.slice none 0 0], []⟩ 8 (by kernel_rfl) (by kernel_rfl) (by kernel_rfl) (by kernel_rfl))
    rfl rfl Try.underlying4 (by kernel_rfl) (fun ds h => match ds, h with | [_], _ => rfl)
    (fun W base args ds p hval hA hsz => by
      rw [Try.params4] at hA hval
      have hsz' := hsz
      rw [Try.params4] at hsz'
      obtain ⟨v0, d0, rfl, rfl, h0⟩ := trodAll_one hA
      obtain ⟨A, n, c, L, rfl, h1, h2, h3⟩ := open_routes (hval 0 22 v0 rfl rfl) h0
      exact routeOrder_walk A n c L W h1 h2 h3)
theorem routeOrder_holds : Rows.RouteOrderSaid :=
  OpenClaim.holds_of_wide 4 Try.f4 rfl rfl rfl rfl rfl rfl rfl ⟨rfl, rfl, rfl, rfl, rfl⟩ rfl rfl rfl rfl rfl (by kernel_rfl) Try.func4 (by kernel_rfl)
    (of_decide_eq_true (by kernel_rfl)) (by unfold Func.isWrapper; rw [if_neg (of_decide_eq_false (by kernel_rfl))]; exact ⟨rfl, rfl⟩)
    (fun os started H enc _ => routeOrder_lifted os started H enc)

end Go.Proofs.Ytmboadgmhafedaa
