/-
  Routes, the reference: Add.
-/
import Derived.Test.YtmboadgmhafedaaRp3
import Derived.Test.YtmboadgmhafedaaTr5
set_option linter.unusedVariables false
namespace Go.Proofs.Ytmboadgmhafedaa
open Go.RowKit

-- what a call of the reference leaves: its row is the elder one or new
def RqP (w : World) (B t : Nat) (v0 : Value) (L : List R4) (err : Int) (e : Ending) (w' : World) : Prop :=
  ∃ v, e = .returned (.int .i64 err) ∧ IsTr w' B t L v ∧ Below B w w' ∧ KeepT w.heap.size [47] w w' ∧ (∀ g, v.ownBlock = some g → v.ownBlock = v0.ownBlock ∨ w.heap.size ≤ g)
theorem RqP.same {w w' : World} {B t : Nat} {v : Value} {L : List R4} (o : IsTr w B t L v) (hB : B ≤ w.heap.size) (k : Below w.heap.size w w') (err : Int) : RqP w B t v L err (.returned (.int .i64 err)) w' :=
  ⟨v, rfl, o.nx k, k.mono hB, KeepT.of_below k (Nat.le_refl _), fun g _ => .inl rfl⟩
theorem okR_eq (net b : Nat) (z u : Int) (hnet : net < 4294967296) (hb : b ≤ 32) (hu : 0 ≤ u) : okR ⟨net, b, z, u⟩ = !(bits .andNot .u32 (net : Int) (msk (32 - b) : Nat) != 0) := by
  rw [bits_nmsk net (32 - b) hnet (by omega)]
  unfold okR
  have h1 : (0 : Int) ≤ b := by omega
  have h2 : (b : Int) ≤ 32 := by omega
  simp only [h1, h2, hu, decide_true, Bool.true_and, Int.toNat_natCast]
  generalize net % 2 ^ (32 - b) = m
  by_cases hm : m = 0
  · subst hm; rfl
  · have h3 : ¬ ((m : Nat) : Int) = 0 := by omega
    rw [beq_eq_false_iff_ne.2 hm]
    have : ((m : Int) != 0) = true := by simpa using hm
    rw [this]
    rfl
set_option maxRecDepth 10000 in
set_option maxHeartbeats 3200000 in
theorem raddBad (w : World) {B t : Nat} {L : List R4} {v : Value} (o : IsTr w B t L v) (r : R4) (hr : InU r) (hB : B ≤ w.heap.size) (hok : okR r = false) :
    Calls Try.prog 14 #[.pointer (some ⟨t, 0, none⟩), .agg #[.int .u32 r.x, .int .i64 r.y, .int .u32 r.z, .int .i64 r.u]] w fun e w' => RqP w B t v L 1 e w' := by
  have B0 := al (rf w) (.cells #[.int .u32 r.x, .int .i64 r.y, .int .u32 r.z, .int .i64 r.u] 36)
  have X0 := Blk.new w 36 #[.int .u32 r.x, .int .i64 r.y, .int .u32 r.z, .int .i64 r.u]
  have HE : Hid (∀ k, RqP w B t v L 1 (.returned (.int .i64 1)) ((w.alloc (.cells #[.int .u32 r.x, .int .i64 r.y, .int .u32 r.z, .int .i64 r.u] 36)).drewN k)) := fun k => RqP.same o hB (dn B0 k) 1
  clear o B0 X0
  obtain ⟨x, y, z, u⟩ := r
  by_cases h1 : y < 0
  · have t1 : decide (y < 0) = true := by simpa using h1
    clear h1 hok hr
    go_enter Try.func14, Try.ntmps14
    go_wp2
    go_quiet (fail)
    go_wp2
    go_ret
    exact HE.out _
  have t1 : decide (y < 0) = false := by simpa using h1
  by_cases h2 : 32 < y
  · have t2 : decide (32 < y) = true := by simpa using h2
    clear h1 h2 hok hr
    go_enter Try.func14, Try.ntmps14
    go_wp2
    go_quiet (fail)
    go_wp2
    go_ret
    exact HE.out _
  have t2 : decide (32 < y) = false := by simpa using h2
  by_cases h3 : u < 0
  · have t3 : decide (u < 0) = true := by simpa using h3
    clear h1 h2 h3 hok hr
    go_enter Try.func14, Try.ntmps14
    go_wp2
    go_quiet (fail)
    go_wp2
    go_ret
    exact HE.out _
  have t3 : decide (u < 0) = false := by simpa using h3
  obtain ⟨net, rfl⟩ := Int.eq_ofNat_of_zero_le hr.1
  obtain ⟨b, rfl⟩ := Int.eq_ofNat_of_zero_le (show 0 ≤ y by omega)
  have hb : b ≤ 32 := by omega
  have MC := Lib.hid (fun W : World => maskC b hb W)
  have e := okR_eq net b z u (by have := hr.2; simp only at this; omega) hb (by omega)
  rw [hok] at e
  have t4 : (bits .andNot .u32 (net : Int) (msk (32 - b) : Nat) != 0) = true := by
    revert e
    cases (bits .andNot .u32 (net : Int) (msk (32 - b) : Nat) != 0) <;> simp
  clear h1 h2 h3 hok hr hb e
  go_enter Try.func14, Try.ntmps14
  go_wp2
  go_quiet ((go_at_call 27; exact Calls.quiet_of_same (MC.out _)))
  go_wp2
  go_ret
  exact HE.out _
theorem tw_ins {L : List R4} {r : R4} {k : Nat} (hk : k ≤ L.length) (h1 : ∀ (j : Nat) (x : R4), j < k → L[j]? = some x → ahdB x r = true) (h2 : ∀ x, L[k]? = some x → ahdB x r = false) : insL L r = L.take k ++ r :: L.drop k := by
  have e : L.takeWhile (fun x => ahdB x r) = L.take k ∧ L.dropWhile (fun x => ahdB x r) = L.drop k := by
    clear hk
    induction L generalizing k with
    | nil => simp
    | cons q L ih =>
      cases k with
      | zero =>
        have := h2 q rfl
        rw [List.takeWhile_cons, List.dropWhile_cons, this]
        exact ⟨rfl, rfl⟩
      | succ k =>
        have h3 := h1 0 q (by omega) rfl
        have := ih (k := k) (fun j x hj hx => h1 (j + 1) x (by omega) (by rw [List.getElem?_cons_succ]; exact hx)) (fun x hx => h2 x (by rw [List.getElem?_cons_succ]; exact hx))
        rw [List.takeWhile_cons, List.dropWhile_cons, h3, if_pos rfl, if_pos rfl, this.1, this.2]
        exact ⟨rfl, rfl⟩
  unfold insL
  rw [e.1, e.2]
theorem cut_nil {c m : Nat} : cutB none c m = none := by unfold cutB; split <;> rfl
theorem cut_eq {A : Option Addr} {c : Nat} : cutB A c c = A := if_pos rfl
theorem cut_some {g c m : Nat} (h : ¬ c = m) : cutB (some ⟨g, 0, none⟩) c m = some ⟨g, m * 4, none⟩ := by
  unfold cutB
  rw [if_neg h, Option.map_some, Addr.add_mid, Nat.zero_add]
theorem rq_end {w W2 w4 : World} {B t : Nat} {L L2 : List R4} {v v4 : Value} {r : R4} (o : IsTr w B t L v) (hB : B ≤ w.heap.size) (ea : addL L r = (insL L r, 0)) (hin : insL L r = L2) (b2 : Below w.heap.size w W2) (b4 : Below W2.heap.size W2 w4) (ow : OwnL w4 W2.heap.size v4 L2) :
    RqP w B t v (addL L r).1 (addL L r).2 (.returned (.int .i64 0)) (w4.setCell ⟨t, 0, none⟩ v4) := by
  rw [ea]
  simp only
  rw [hin]
  have o2 := o.nx b2
  have tb := (o2.nx b4).tab
  have g3 : W2.grownBy (w4.setCell ⟨t, 0, none⟩ v4) (some t) := only_setCell (only_of_below b4 (some t)) (.inl rfl) v4
  have hs : KeepS (fun i => i = t) w4 (w4.setCell ⟨t, 0, none⟩ v4) := KeepS.set (S := fun i => i = t) (p := ⟨t, 0, none⟩) rfl v4
  have ow5 : OwnL (w4.setCell ⟨t, 0, none⟩ v4) W2.heap.size v4 L2 := hs.own ow (fun g hg e => own_blk_ne ow tb (by decide) (by rw [hg, e]))
  have P := o2.put (L2 := L2) g3 (by simpa using tb.set_ 0 v4) ow5 (Nat.le_trans hB b2.size)
  exact ⟨v4, rfl, P.1, (b2.mono hB).trans P.2.1, (KeepT.of_below b2 (Nat.le_refl _)).trans (P.2.2.less b2.size), fun g hg => .inr (Nat.le_trans b2.size (own_lo ow5 hg).1)⟩
theorem reads1 {w : World} {g : Nat} {r : R4} (h : Blk w g 36 #[.int .u32 r.x, .int .i64 r.y, .int .u32 r.z, .int .i64 r.u]) : Reads w w.heap.size 4 (some ⟨g, 0, none⟩) 1 r.cs :=
  ⟨rfl, fun _ => ⟨_, rfl, h.lt, fun j u hj => match j, hj with
    | 0, hj => by cases hj; exact h.cell 0
    | 1, hj => by cases hj; exact h.cell 1
    | 2, hj => by cases hj; exact h.cell 2
    | 3, hj => by cases hj; exact h.cell 3⟩⟩
theorem r4_one (r : R4) : ∀ x ∈ r.cs, x.oneCell' = true := by
  intro x hx
  unfold R4.cs at hx
  simp at hx
  rcases hx with rfl | rfl | rfl | rfl <;> rfl
set_option maxRecDepth 10000 in
set_option maxHeartbeats 3200000 in
theorem raddOk (w : World) {B t : Nat} {L : List R4} {v : Value} (o : IsTr w B t L v) (h : TabOK L) (r : R4) (hr : InU r) (hB : B ≤ w.heap.size) (hok : okR r = true) :
    Calls Try.prog 14 #[.pointer (some ⟨t, 0, none⟩), .agg #[.int .u32 r.x, .int .i64 r.y, .int .u32 r.z, .int .i64 r.u]] w fun e w' => RqP w B t v (addL L r).1 (addL L r).2 e w' := by
  have hwf := okR_wf hok hr
  obtain ⟨A, c, hv, hnc⟩ := o.own.form
  subst hv
  obtain ⟨n, hnn⟩ : ∃ n, L.length = n := ⟨_, rfl⟩
  obtain ⟨x, y, z, u⟩ := r
  obtain ⟨net, rfl⟩ := Int.eq_ofNat_of_zero_le (show 0 ≤ x from hwf.x0)
  obtain ⟨b, rfl⟩ := Int.eq_ofNat_of_zero_le (show 0 ≤ y from hwf.y0)
  have hnet : net < 4294967296 := by have := hwf.x1; simp only at this; omega
  have hb : b ≤ 32 := by have := hwf.y1; simp only at this; omega
  have hu : 0 ≤ u := hwf.u0
  have MC := Lib.hid (fun W : World => maskC b hb W)
  have e := okR_eq net b z u hnet hb hu
  rw [hok] at e
  have t4 : (bits .andNot .u32 (net : Int) (msk (32 - b) : Nat) != 0) = false := by
    revert e
    cases (bits .andNot .u32 (net : Int) (msk (32 - b) : Nat) != 0) <;> simp
  have t1 : decide ((b : Int) < 0) = false := by rw [decide_eq_false_iff_not]; omega
  have t2 : decide ((32 : Int) < b) = false := by rw [decide_eq_false_iff_not]; omega
  have t3 : decide (u < 0) = false := by rw [decide_eq_false_iff_not]; omega
  have B0 := Lib.hid (al (rf w) (.cells #[.int .u32 net, .int .i64 b, .int .u32 z, .int .i64 u] 36))
  have X0 := Lib.hid (Blk.new w 36 #[.int .u32 net, .int .i64 b, .int .u32 z, .int .i64 u])
  rw [hnn] at o
  have HO := Lib.hid o
  have HTK := Lib.hid h
  have HOK := Lib.hid hok
  have HN := Lib.hid hnn
  have hn64 : n ≤ 64 := by rw [← hnn]; exact h.len
  have HB := Lib.hid hB
  rw [hnn] at hnc
  simp only [hnn]
  clear o h hr hB hok hwf hnet hb hu e hnn
  go_enter Try.func14, Try.ntmps14
  go_wp2
  go_quiet ((go_at_call 27; exact Calls.quiet_of_same (MC.out _)))
  generalize hW : (w.alloc (.cells #[.int .u32 net, .int .i64 b, .int .u32 z, .int .i64 u] 36)).drewN _ = W
  have bW : Below w.heap.size w W := by rw [← hW]; exact dn B0.out _
  have xW : Blk W w.heap.size 36 #[.int .u32 net, .int .i64 b, .int .u32 z, .int .i64 u] := by rw [← hW]; exact X0.out
  clear hW B0 X0
  have OW := Lib.hid (HO.out.nx bW)
  have SC := Lib.hid (spotC W OW.out (Nat.le_trans HTK.out.len (by decide)) ⟨net, b, z, u⟩)
  have BW := Lib.hid bW
  have XW := Lib.hid xW
  have c0 := xW.cell 0
  have c1 := xW.cell 1
  have c2 := xW.cell 2
  have c3 := xW.cell 3
  simp only [List.getElem?_toArray, List.getElem?_cons_zero, List.getElem?_cons_succ] at c0 c1 c2 c3
  clear bW xW
  go_wp2_with fail
  refine SC.out.mono ?_
  rintro e w1 ⟨s, rfl, hs, b1⟩
  have O1 := Lib.hid (OW.out.nx b1)
  have BW1 := Lib.hid (nx BW.out b1)
  have XW1 := Lib.hid (XW.out.nx b1)
  clear b1 c0 c1 c2 c3
  rcases hs with ⟨p, x, rfl, hx, hk⟩ | ⟨rfl, hno⟩
  · have HE : Hid (RqP w B t (.slice A n c) (addL L ⟨net, b, z, u⟩).1 (addL L ⟨net, b, z, u⟩).2 (.returned (.int .i64 8)) w1) := by
      have hh : hasK L ⟨net, b, z, u⟩ = true := (hasK_iff L _).2 ⟨x, List.mem_of_getElem? hx, hk⟩
      have ea : addL L ⟨net, b, z, u⟩ = (L, 8) := by unfold addL; rw [if_pos HOK.out, if_pos hh]
      rw [ea]
      exact RqP.same HO.out HB.out BW1.out 8
    have p0 : (0 : Int) ≤ p := by omega
    clear hx hk
    go_wp2
    go_ret
    exact HE.out
  have hh : hasK L ⟨net, b, z, u⟩ = false := by
    cases hb : hasK L ⟨net, b, z, u⟩ with
    | false => rfl
    | true => obtain ⟨x, hx, hk⟩ := (hasK_iff L _).1 hb; exact absurd hk (hno x hx)
  have ct : w1.cell? ⟨t, 0, none⟩ = some (.slice A n c) := O1.out.tab.cell 0
  by_cases h64 : 64 ≤ n
  · have HE : Hid (RqP w B t (.slice A n c) (addL L ⟨net, b, z, u⟩).1 (addL L ⟨net, b, z, u⟩).2 (.returned (.int .i64 6)) w1) := by
      have ea : addL L ⟨net, b, z, u⟩ = (L, 6) := by unfold addL; rw [if_pos HOK.out, hh, if_neg (by simp), if_pos (by rw [HN.out]; exact h64)]
      rw [ea]
      exact RqP.same HO.out HB.out BW1.out 6
    have e64 : (64 : Int) ≤ n := by omega
    clear h64 hh hno
    go_wp2
    go_ret
    exact HE.out
  have EA : Hid (addL L ⟨net, b, z, u⟩ = (insL L ⟨net, b, z, u⟩, 0)) := by show _ = _; unfold addL; rw [if_pos HOK.out, hh, if_neg (by simp), if_neg (by rw [HN.out]; exact h64)]
  have e64 : ¬ (64 : Int) ≤ n := by omega
  clear h64 hh hno
  go_wp2
  go_loopw [5] (fun kv wr => ∃ k : Nat, kv = .int .i64 k ∧ k ≤ n ∧ Hid (∀ (j : Nat) (x : R4), j < k → L[j]? = some x → ahdB x ⟨net, b, z, u⟩ = true) ∧ Hid (Below w1.heap.size w1 wr)) (fun kv _ => n - (intOf kv).toNat)
  case atStart => exact ⟨0, rfl, Nat.zero_le _, fun j x hj => absurd hj (Nat.not_lt_zero _), rf w1⟩
  case round =>
    obtain ⟨k, rfl, hk, HK, HB1⟩ := hrel
    have Or := Lib.hid (O1.out.nx HB1.out)
    have Xr := Lib.hid (XW1.out.nx HB1.out)
    have T0 : ∀ q : Bw wr, q.w.cell? ⟨t, 0, none⟩ = some (.slice A n c) := fun q => (Or.out.nx q.h).tab.cell 0
    have R0 : ∀ q : Bw wr, q.w.cell? ⟨w.heap.size, 0, none⟩ = some (.int .u32 net) := fun q => (Xr.out.nx q.h).cell 0
    have R1 : ∀ q : Bw wr, q.w.cell? ⟨w.heap.size, 1, none⟩ = some (.int .i64 b) := fun q => (Xr.out.nx q.h).cell 1
    have R2 : ∀ q : Bw wr, q.w.cell? ⟨w.heap.size, 2, none⟩ = some (.int .u32 z) := fun q => (Xr.out.nx q.h).cell 2
    have R3 : ∀ q : Bw wr, q.w.cell? ⟨w.heap.size, 3, none⟩ = some (.int .i64 u) := fun q => (Xr.out.nx q.h).cell 3
    have k0 : (0 : Int) ≤ k := by omega
    by_cases hkn : k < n
    · have k1 : (k : Int) < n := by omega
      have kd : decide ((k : Int) < n) = true := by rw [decide_eq_true_eq]; omega
      obtain ⟨x, hx⟩ : ∃ x, L[k]? = some x := ⟨_, List.getElem?_eq_getElem (by have := HN.out; omega)⟩
      obtain ⟨g, hA, _, _⟩ := Or.out.own.cells hx
      subst hA
      have D : Hid (∀ q : Bw wr, q.w.cell? ⟨g, k * 4, none⟩ = some (.int .u32 x.x) ∧ q.w.cell? ⟨g, k * 4 + 1, none⟩ = some (.int .i64 x.y) ∧ q.w.cell? ⟨g, k * 4 + 2, none⟩ = some (.int .u32 x.z) ∧ q.w.cell? ⟨g, k * 4 + 3, none⟩ = some (.int .i64 x.u)) := fun q => by
        obtain ⟨g', hg, _, d0, d1, d2, d3⟩ := (Or.out.nx q.h).own.cells hx
        injection hg with hg; injection hg with hg; subst hg
        exact ⟨d0, d1, d2, d3⟩
      have D0 : ∀ q : Bw wr, q.w.cell? ⟨g, k * 4, none⟩ = some (.int .u32 x.x) := fun q => (D.out q).1
      have D1 : ∀ q : Bw wr, q.w.cell? ⟨g, k * 4 + 1, none⟩ = some (.int .i64 x.y) := fun q => (D.out q).2.1
      have D2 : ∀ q : Bw wr, q.w.cell? ⟨g, k * 4 + 2, none⟩ = some (.int .u32 x.z) := fun q => (D.out q).2.2.1
      have D3 : ∀ q : Bw wr, q.w.cell? ⟨g, k * 4 + 3, none⟩ = some (.int .i64 x.u) := fun q => (D.out q).2.2.2
      have AC := Lib.hid (fun V : World => aheadC x ⟨net, b, z, u⟩ V)
      have HX := Lib.hid hx
      clear hx
      cases hq : ahdB x ⟨net, b, z, u⟩ with
      | true =>
        rw [hq] at AC
        have HK2 : Hid (∀ (j : Nat) (x : R4), j < k + 1 → L[j]? = some x → ahdB x ⟨net, b, z, u⟩ = true) := fun j y hj hy => by
          by_cases hjk : j = k
          · subst hjk; rw [HX.out] at hy; injection hy with hy; subst hy; exact hq
          · exact HK.out j y (by omega) hy
        clear hq
        go_wp2
        refine wp_region_below (by kernel_rfl) (by as_aux_lemma => exact lexB_of _ (by kernel_rfl) (by kernel_rfl)) ?_
        repeat (go_big_quiet_step (exact Calls.bw _ (AC.out _)))
        refine wpQuiet_nil ?_
        intro W2 hw'
        have hW2 : Below wr.heap.size wr W2 := by obtain ⟨q, hz⟩ := hw'; rw [hz]; exact q.h
        have HB2 := Lib.hid (nx HB1.out hW2)
        clear hW2 hw' T0 R0 R1 R2 R3 D0 D1 D2 D3
        go_wp2
        go_roundw
        case rel => exact ⟨k + 1, by go_num, by omega, HK2.out, HB2.out⟩
        case measure => simp [intOf]; omega
      | false =>
        rw [hq] at AC
        have HIN : Hid (insL L ⟨net, b, z, u⟩ = L.take k ++ (⟨net, b, z, u⟩ : R4) :: L.drop k) := tw_ins (by have := HN.out; omega) HK.out (fun y hy => by rw [HX.out] at hy; injection hy with hy; subst hy; exact hq)
        clear hq
        go_wp2
        refine wp_region_below (by kernel_rfl) (by as_aux_lemma => exact lexB_of _ (by kernel_rfl) (by kernel_rfl)) ?_
        repeat (go_big_quiet_step (exact Calls.bw _ (AC.out _)))
        refine wpQuiet_nil ?_
        intro W2 hw'
        have hW2 : Below wr.heap.size wr W2 := by obtain ⟨q, hz⟩ := hw'; rw [hz]; exact q.h
        have HB2 := Lib.hid (nx HB1.out hW2)
        have O2 := Lib.hid (O1.out.nx HB2.out)
        have X2 := Lib.hid (XW1.out.nx HB2.out)
        have B2 := Lib.hid (nx BW1.out HB2.out)
        clear hW2 hw' T0 R0 R1 R2 R3 D0 D1 D2 D3 ct
        obtain ⟨kn, hkn2⟩ : ∃ q : Nat, q = k := ⟨_, rfl⟩
        have k2 : (k : Int) ≤ c := by omega
        have hkb : k ≤ 64 := by omega
        have cT : W2.drew.cell? ⟨t, 0, none⟩ = some (.slice (some ⟨g, 0, none⟩) n c) := O2.out.tab.cell 0
        have cTa : ∀ o, (W2.alloc o).cell? ⟨t, 0, none⟩ = some (.slice (some ⟨g, 0, none⟩) n c) := fun o => (O2.out.nx (al (rf W2) o)).tab.cell 0
        have cTb : ∀ o o', ((W2.alloc o).alloc o').cell? ⟨t, 0, none⟩ = some (.slice (some ⟨g, 0, none⟩) n c) := fun o o' => (O2.out.nx (al (al (rf W2) o) o')).tab.cell 0
        have XA : Hid (∀ o, Blk (W2.alloc o) w.heap.size 36 #[.int .u32 net, .int .i64 b, .int .u32 z, .int .i64 u]) := fun o => X2.out.nx (al (rf W2) o)
        have sa0 : ∀ o, (W2.alloc o).cell? ⟨w.heap.size, 0, none⟩ = some (.int .u32 net) := fun o => (XA.out o).cell 0
        have sa1 : ∀ o, (W2.alloc o).cell? ⟨w.heap.size, 1, none⟩ = some (.int .i64 b) := fun o => (XA.out o).cell 1
        have sa2 : ∀ o, (W2.alloc o).cell? ⟨w.heap.size, 2, none⟩ = some (.int .u32 z) := fun o => (XA.out o).cell 2
        have sa3 : ∀ o, (W2.alloc o).cell? ⟨w.heap.size, 3, none⟩ = some (.int .i64 u) := fun o => (XA.out o).cell 3
        have s0 : W2.drew.cell? ⟨w.heap.size, 0, none⟩ = some (.int .u32 net) := X2.out.cell 0
        have s1 : W2.drew.cell? ⟨w.heap.size, 1, none⟩ = some (.int .i64 b) := X2.out.cell 1
        have s2 : W2.drew.cell? ⟨w.heap.size, 2, none⟩ = some (.int .u32 z) := X2.out.cell 2
        have s3 : W2.drew.cell? ⟨w.heap.size, 3, none⟩ = some (.int .i64 u) := X2.out.cell 3
        have L1 : Hid ((W2.drew.alloc (.cells #[] 36)).ownsRow W2.heap.size 36 4 (.slice (some ⟨W2.drew.heap.size, 0, none⟩) 0 0) 0 []) := own_lit W2.drew #[] 0 rfl (Nat.le_refl _) (by decide) rfl
        have RD1 : Hid (Reads (W2.drew.alloc (.cells #[] 36)) (W2.drew.alloc (.cells #[] 36)).heap.size 4 (some ⟨g, 0, none⟩) k (flat (L.take k))) := reads_take (OwnL.reads (O2.out.nx (al (rf W2).drew _)).own) (by have := HN.out; omega)
        have Z1 : Hid (W2.heap.size ≤ (W2.drew.alloc (.cells #[] 36)).heap.size) := (al (rf W2).drew _).size
        have bB : Hid (Below W2.heap.size W2 ((W2.drew.alloc (.cells #[] 36)).alloc (.cells #[.int .u32 net, .int .i64 b, .int .u32 z, .int .i64 u] 36))) := al (al (rf W2).drew _) _
        have bC : Hid (Below W2.heap.size W2 ((W2.drew.alloc (.cells #[.int .u32 net, .int .i64 b, .int .u32 z, .int .i64 u] 36)).alloc (.cells #[] 36))) := al (al (rf W2).drew _) _
        have L1b : Hid (((W2.drew.alloc (.cells #[] 36)).alloc (.cells #[.int .u32 net, .int .i64 b, .int .u32 z, .int .i64 u] 36)).ownsRow W2.heap.size 36 4 (.slice (some ⟨W2.drew.heap.size, 0, none⟩) 0 0) 0 []) := own_nx L1.out (al (rf _) _)
        have L1c : Hid (((W2.drew.alloc (.cells #[.int .u32 net, .int .i64 b, .int .u32 z, .int .i64 u] 36)).alloc (.cells #[] 36)).ownsRow W2.heap.size 36 4 (.slice (some ⟨W2.heap.size + 1, 0, none⟩) 0 0) 0 []) := own_lit (W2.drew.alloc (.cells #[.int .u32 net, .int .i64 b, .int .u32 z, .int .i64 u] 36)) #[] 0 (by simp) (by omega) (by decide) rfl
        have RD1b : Hid (Reads ((W2.drew.alloc (.cells #[] 36)).alloc (.cells #[.int .u32 net, .int .i64 b, .int .u32 z, .int .i64 u] 36)) ((W2.drew.alloc (.cells #[] 36)).alloc (.cells #[.int .u32 net, .int .i64 b, .int .u32 z, .int .i64 u] 36)).heap.size 4 (some ⟨g, 0, none⟩) k (flat (L.take k))) := reads_take (OwnL.reads (O2.out.nx bB.out).own) (by have := HN.out; omega)
        have RD1c : Hid (Reads ((W2.drew.alloc (.cells #[.int .u32 net, .int .i64 b, .int .u32 z, .int .i64 u] 36)).alloc (.cells #[] 36)) ((W2.drew.alloc (.cells #[.int .u32 net, .int .i64 b, .int .u32 z, .int .i64 u] 36)).alloc (.cells #[] 36)).heap.size 4 (some ⟨g, 0, none⟩) k (flat (L.take k))) := reads_take (OwnL.reads (O2.out.nx bC.out).own) (by have := HN.out; omega)
        have NB : Hid (Blk ((W2.drew.alloc (.cells #[] 36)).alloc (.cells #[.int .u32 net, .int .i64 b, .int .u32 z, .int .i64 u] 36)) (W2.heap.size + 1) 36 #[.int .u32 net, .int .i64 b, .int .u32 z, .int .i64 u]) := by
          have h := Blk.new (W2.drew.alloc (.cells #[] 36)) 36 #[.int .u32 net, .int .i64 b, .int .u32 z, .int .i64 u]
          rw [show (W2.drew.alloc (.cells #[] 36)).heap.size = W2.heap.size + 1 by simp] at h
          exact h
        have NC : Hid (Blk ((W2.drew.alloc (.cells #[.int .u32 net, .int .i64 b, .int .u32 z, .int .i64 u] 36)).alloc (.cells #[] 36)) W2.heap.size 36 #[.int .u32 net, .int .i64 b, .int .u32 z, .int .i64 u]) := (Blk.new W2.drew 36 #[.int .u32 net, .int .i64 b, .int .u32 z, .int .i64 u]).alloc _
        go_wp2
        go_region_law (first
          | (refine step_app stR rfl (.tmp 59) (.tmp 65) rfl W2.heap.size (.slice (some ⟨W2.drew.heap.size, 0, none⟩) 0 0) 0 [] rfl L1.out _ _ _ (flat (L.take k)) rfl RD1.out (flat_one _) (by omega) (by omega) Z1.out ?_
             intro v2 w2 own2 gr2 at2 bel2
             (simp only [Nat.zero_add, List.nil_append] at own2)
             obtain ⟨A2, c2, rfl⟩ := own_slice own2
             have b2 : Below W2.heap.size W2 w2 := (al (rf W2).drew _).trans bel2
             have z2 := b2.size
             have q0 : w2.cell? ⟨w.heap.size, 0, none⟩ = some (.int .u32 net) := (X2.out.nx b2).cell 0
             have q1 : w2.cell? ⟨w.heap.size, 1, none⟩ = some (.int .i64 b) := (X2.out.nx b2).cell 1
             have q2 : w2.cell? ⟨w.heap.size, 2, none⟩ = some (.int .u32 z) := (X2.out.nx b2).cell 2
             have q3 : w2.cell? ⟨w.heap.size, 3, none⟩ = some (.int .i64 u) := (X2.out.nx b2).cell 3
             have B2a : Hid (Below W2.heap.size W2 (w2.alloc (.cells #[.int .u32 net, .int .i64 b, .int .u32 z, .int .i64 u] 36))) := b2.alloc z2 _
             have L2a : Hid ((w2.alloc (.cells #[.int .u32 net, .int .i64 b, .int .u32 z, .int .i64 u] 36)).ownsRow W2.heap.size 36 4 (.slice A2 k c2) k (flat (L.take k))) := own_nx own2 (al (rf w2) _)
             have R2a : Hid (Reads (w2.alloc (.cells #[.int .u32 net, .int .i64 b, .int .u32 z, .int .i64 u] 36)) (w2.alloc (.cells #[.int .u32 net, .int .i64 b, .int .u32 z, .int .i64 u] 36)).heap.size 4 (some ⟨w2.heap.size, 0, none⟩) 1 (R4.cs ⟨net, b, z, u⟩)) := reads1 (r := ⟨net, b, z, u⟩) (Blk.new w2 _ _)
             clear own2 gr2 at2 bel2 b2)
          | (refine step_app stR rfl (.tmp 66) (.tmp 68) rfl W2.heap.size (.slice A2 k c2) k (flat (L.take k)) rfl L2a.out _ 1 1 (R4.cs ⟨net, b, z, u⟩) rfl R2a.out (r4_one _) (by omega) (by omega) B2a.out.size ?_
             intro v3 w3 own3 gr3 at3 bel3
             obtain ⟨A3, c3, rfl⟩ := own_slice own3
             have FO : Hid (w3.ownsRow W2.heap.size 36 4 (.slice A3 (k + 1) c3) (k + 1) (flat (L.take k) ++ R4.cs ⟨net, b, z, u⟩)) := own3
             have FB : Hid (Below W2.heap.size W2 w3) := B2a.out.trans bel3
             clear own3 gr3 at3 bel3)
          | (refine step_app stR rfl (.tmp 59) (.tmp 65) rfl W2.heap.size (.slice (some ⟨W2.drew.heap.size, 0, none⟩) 0 0) 0 [] rfl L1b.out _ _ _ (flat (L.take k)) rfl RD1b.out (flat_one _) (by omega) (by omega) bB.out.size ?_
             intro v2 w2 own2 gr2 at2 bel2
             (simp only [Nat.zero_add, List.nil_append] at own2)
             obtain ⟨A2, c2, rfl⟩ := own_slice own2
             have B2b : Hid (Below W2.heap.size W2 w2) := bB.out.trans bel2
             have L2b : Hid (w2.ownsRow W2.heap.size 36 4 (.slice A2 k c2) k (flat (L.take k))) := own2
             have R2b : Hid (Reads w2 w2.heap.size 4 (some ⟨W2.heap.size + 1, 0, none⟩) 1 (R4.cs ⟨net, b, z, u⟩)) := reads1 (r := ⟨net, b, z, u⟩) (NB.out.grown gr2 (by simp [Value.ownBlock]))
             clear own2 gr2 at2 bel2)
          | (refine step_app stR rfl (.tmp 66) (.tmp 68) rfl W2.heap.size (.slice A2 k c2) k (flat (L.take k)) rfl L2b.out _ 1 1 (R4.cs ⟨net, b, z, u⟩) rfl R2b.out (r4_one _) (by omega) (by omega) B2b.out.size ?_
             intro v3 w3 own3 gr3 at3 bel3
             obtain ⟨A3, c3, rfl⟩ := own_slice own3
             have FO : Hid (w3.ownsRow W2.heap.size 36 4 (.slice A3 (k + 1) c3) (k + 1) (flat (L.take k) ++ R4.cs ⟨net, b, z, u⟩)) := own3
             have FB : Hid (Below W2.heap.size W2 w3) := B2b.out.trans bel3
             clear own3 gr3 at3 bel3)
          | (refine step_app stR rfl (.tmp 59) (.tmp 65) rfl W2.heap.size (.slice (some ⟨W2.heap.size + 1, 0, none⟩) 0 0) 0 [] rfl L1c.out _ _ _ (flat (L.take k)) rfl RD1c.out (flat_one _) (by omega) (by omega) bC.out.size ?_
             intro v2 w2 own2 gr2 at2 bel2
             (simp only [Nat.zero_add, List.nil_append] at own2)
             obtain ⟨A2, c2, rfl⟩ := own_slice own2
             have B2c : Hid (Below W2.heap.size W2 w2) := bC.out.trans bel2
             have L2c : Hid (w2.ownsRow W2.heap.size 36 4 (.slice A2 k c2) k (flat (L.take k))) := own2
             have R2c : Hid (Reads w2 w2.heap.size 4 (some ⟨W2.heap.size, 0, none⟩) 1 (R4.cs ⟨net, b, z, u⟩)) := reads1 (r := ⟨net, b, z, u⟩) (NC.out.grown gr2 (by simp [Value.ownBlock]))
             clear own2 gr2 at2 bel2)
          | (refine step_app stR rfl (.tmp 66) (.tmp 68) rfl W2.heap.size (.slice A2 k c2) k (flat (L.take k)) rfl L2c.out _ 1 1 (R4.cs ⟨net, b, z, u⟩) rfl R2c.out (r4_one _) (by omega) (by omega) B2c.out.size ?_
             intro v3 w3 own3 gr3 at3 bel3
             obtain ⟨A3, c3, rfl⟩ := own_slice own3
             have FO : Hid (w3.ownsRow W2.heap.size 36 4 (.slice A3 (k + 1) c3) (k + 1) (flat (L.take k) ++ R4.cs ⟨net, b, z, u⟩)) := own3
             have FB : Hid (Below W2.heap.size W2 w3) := B2c.out.trans bel3
             clear own3 gr3 at3 bel3)
          | fail)
        all_goals
          have z3 := FB.out.size
          have O3 := Lib.hid (O2.out.nx FB.out)
          have c3t : w3.cell? ⟨t, 0, none⟩ = some (.slice (some ⟨g, 0, none⟩) n c) := O3.out.tab.cell 0
          have RD3 := Lib.hid (reads_drop' (OwnL.reads O3.out.own) HN.out hk hnc)
          have hcp : ¬ c = k := by omega
          clear cT cTa cTb s0 s1 s2 s3 sa0 sa1 sa2 sa3 bB bC L1b L1c RD1b RD1c NB NC L1 RD1 Z1
          go_wp2_with (first
            | (at_builtin
               refine app_any stR rfl (.tmp 71) (.tmp 77) rfl W2.heap.size (.slice A3 (k + 1) c3) (k + 1) _ rfl FO.out _ _ _ (flat (L.drop k)) rfl (by have h9 := RD3.out; rw [cut_some hcp] at h9; exact h9) (flat_one _) (by omega) (by omega) z3 ?_
               intro v4 w4 own4 gr4 at4 bel4
               have e1 : flat (L.take k ++ (⟨net, b, z, u⟩ : R4) :: L.drop k) = flat (L.take k) ++ R4.cs ⟨net, b, z, u⟩ ++ flat (L.drop k) := (by rw [flat_app, List.append_assoc]; rfl)
               have e2 : (L.take k ++ (⟨net, b, z, u⟩ : R4) :: L.drop k).length = k + 1 + (n - k) := (by rw [List.length_append, List.length_take, List.length_cons, List.length_drop, HN.out, Nat.min_eq_left hk]; omega)
               have own5 : w4.ownsRow W2.heap.size 36 4 v4 (L.take k ++ (⟨net, b, z, u⟩ : R4) :: L.drop k).length (flat (L.take k ++ (⟨net, b, z, u⟩ : R4) :: L.drop k)) := (by rw [e1, e2]; exact own4)
               obtain ⟨N, hNN⟩ : ∃ N, (L.take k ++ (⟨net, b, z, u⟩ : R4) :: L.drop k).length = N := ⟨_, rfl⟩
               rw [hNN] at own5
               obtain ⟨A4, c4, hv4⟩ := own_slice own5
               subst hv4
               have HNN := Lib.hid hNN
               have OW5 := Lib.hid own5
               have B4 : Hid (Below W2.heap.size W2 w4) := FB.out.trans bel4
               have O4 := Lib.hid (O2.out.nx B4.out)
               have c4h : w4.cell? ⟨t, 0, none⟩ = some (.slice (some ⟨g, 0, none⟩) n c) := O4.out.tab.cell 0
               have f4 := O4.out.tab.frozen 0
               clear e1 e2 hNN own4 own5)
            | fail)
          have HE : Hid (RqP w B t (.slice (some ⟨g, 0, none⟩) n c) (addL L ⟨net, b, z, u⟩).1 (addL L ⟨net, b, z, u⟩).2 (.returned (.int .i64 0)) (w4.setCell ⟨t, 0, none⟩ (.slice A4 N c4))) := rq_end HO.out HB.out EA.out HIN.out B2.out B4.out (by unfold OwnL; rw [HNN.out]; exact OW5.out)
          clear c3t c4h f4
          go_wp2
          go_ret
          exact HE.out
    · obtain rfl : k = n := by omega
      have kd : decide ((k : Int) < k) = false := by rw [decide_eq_false_iff_not]; omega
      have hA : (A = none) ∨ ∃ g, A = some ⟨g, 0, none⟩ := by
        rcases Or.out.own.2 with ⟨h1, h2⟩ | ⟨g, _, _, h1, _⟩
        · injection h1 with h1 h3 h4; exact .inl h1
        · injection h1 with h1; exact .inr ⟨g, h1⟩
      have hcp : A = none ∨ (k = c ∧ ∃ g, A = some ⟨g, 0, none⟩) ∨ (¬ c = k ∧ ∃ g, A = some ⟨g, 0, none⟩) := by
        rcases hA with h | h
        · exact .inl h
        · by_cases hc : k = c
          · exact .inr (.inl ⟨hc, h⟩)
          · exact .inr (.inr ⟨fun h => hc h.symm, h⟩)
      clear hA
      rcases hcp with rfl | ⟨hpc, g, rfl⟩ | ⟨hcp, g, rfl⟩
      · have HIN : Hid (insL L ⟨net, b, z, u⟩ = L.take k ++ (⟨net, b, z, u⟩ : R4) :: L.drop k) := tw_ins (by have := HN.out; omega) HK.out (fun y hy => by have := (List.getElem?_eq_some_iff.1 hy).1; have := HN.out; omega)
        go_wp2
        refine wp_region_below (by kernel_rfl) (by as_aux_lemma => exact lexB_of _ (by kernel_rfl) (by kernel_rfl)) ?_
        repeat (go_big_quiet_step (fail))
        refine wpQuiet_nil ?_
        intro W2 hw'
        have hW2 : Below wr.heap.size wr W2 := by obtain ⟨q, hz⟩ := hw'; rw [hz]; exact q.h
        have HB2 := Lib.hid (nx HB1.out hW2)
        have O2 := Lib.hid (O1.out.nx HB2.out)
        have X2 := Lib.hid (XW1.out.nx HB2.out)
        have B2 := Lib.hid (nx BW1.out HB2.out)
        clear hW2 hw' T0 R0 R1 R2 R3 ct
        obtain ⟨kn, hkn2⟩ : ∃ q : Nat, q = k := ⟨_, rfl⟩
        have k2 : (k : Int) ≤ c := by omega
        have hkb : k ≤ 64 := by omega
        have cT : W2.drew.cell? ⟨t, 0, none⟩ = some (.slice none k c) := O2.out.tab.cell 0
        have cTa : ∀ o, (W2.alloc o).cell? ⟨t, 0, none⟩ = some (.slice none k c) := fun o => (O2.out.nx (al (rf W2) o)).tab.cell 0
        have cTb : ∀ o o', ((W2.alloc o).alloc o').cell? ⟨t, 0, none⟩ = some (.slice none k c) := fun o o' => (O2.out.nx (al (al (rf W2) o) o')).tab.cell 0
        have XA : Hid (∀ o, Blk (W2.alloc o) w.heap.size 36 #[.int .u32 net, .int .i64 b, .int .u32 z, .int .i64 u]) := fun o => X2.out.nx (al (rf W2) o)
        have sa0 : ∀ o, (W2.alloc o).cell? ⟨w.heap.size, 0, none⟩ = some (.int .u32 net) := fun o => (XA.out o).cell 0
        have sa1 : ∀ o, (W2.alloc o).cell? ⟨w.heap.size, 1, none⟩ = some (.int .i64 b) := fun o => (XA.out o).cell 1
        have sa2 : ∀ o, (W2.alloc o).cell? ⟨w.heap.size, 2, none⟩ = some (.int .u32 z) := fun o => (XA.out o).cell 2
        have sa3 : ∀ o, (W2.alloc o).cell? ⟨w.heap.size, 3, none⟩ = some (.int .i64 u) := fun o => (XA.out o).cell 3
        have s0 : W2.drew.cell? ⟨w.heap.size, 0, none⟩ = some (.int .u32 net) := X2.out.cell 0
        have s1 : W2.drew.cell? ⟨w.heap.size, 1, none⟩ = some (.int .i64 b) := X2.out.cell 1
        have s2 : W2.drew.cell? ⟨w.heap.size, 2, none⟩ = some (.int .u32 z) := X2.out.cell 2
        have s3 : W2.drew.cell? ⟨w.heap.size, 3, none⟩ = some (.int .i64 u) := X2.out.cell 3
        have L1 : Hid ((W2.drew.alloc (.cells #[] 36)).ownsRow W2.heap.size 36 4 (.slice (some ⟨W2.drew.heap.size, 0, none⟩) 0 0) 0 []) := own_lit W2.drew #[] 0 rfl (Nat.le_refl _) (by decide) rfl
        have RD1 : Hid (Reads (W2.drew.alloc (.cells #[] 36)) (W2.drew.alloc (.cells #[] 36)).heap.size 4 none k (flat (L.take k))) := reads_take (OwnL.reads (O2.out.nx (al (rf W2).drew _)).own) (by have := HN.out; omega)
        have Z1 : Hid (W2.heap.size ≤ (W2.drew.alloc (.cells #[] 36)).heap.size) := (al (rf W2).drew _).size
        have bB : Hid (Below W2.heap.size W2 ((W2.drew.alloc (.cells #[] 36)).alloc (.cells #[.int .u32 net, .int .i64 b, .int .u32 z, .int .i64 u] 36))) := al (al (rf W2).drew _) _
        have bC : Hid (Below W2.heap.size W2 ((W2.drew.alloc (.cells #[.int .u32 net, .int .i64 b, .int .u32 z, .int .i64 u] 36)).alloc (.cells #[] 36))) := al (al (rf W2).drew _) _
        have L1b : Hid (((W2.drew.alloc (.cells #[] 36)).alloc (.cells #[.int .u32 net, .int .i64 b, .int .u32 z, .int .i64 u] 36)).ownsRow W2.heap.size 36 4 (.slice (some ⟨W2.drew.heap.size, 0, none⟩) 0 0) 0 []) := own_nx L1.out (al (rf _) _)
        have L1c : Hid (((W2.drew.alloc (.cells #[.int .u32 net, .int .i64 b, .int .u32 z, .int .i64 u] 36)).alloc (.cells #[] 36)).ownsRow W2.heap.size 36 4 (.slice (some ⟨W2.heap.size + 1, 0, none⟩) 0 0) 0 []) := own_lit (W2.drew.alloc (.cells #[.int .u32 net, .int .i64 b, .int .u32 z, .int .i64 u] 36)) #[] 0 (by simp) (by omega) (by decide) rfl
        have RD1b : Hid (Reads ((W2.drew.alloc (.cells #[] 36)).alloc (.cells #[.int .u32 net, .int .i64 b, .int .u32 z, .int .i64 u] 36)) ((W2.drew.alloc (.cells #[] 36)).alloc (.cells #[.int .u32 net, .int .i64 b, .int .u32 z, .int .i64 u] 36)).heap.size 4 none k (flat (L.take k))) := reads_take (OwnL.reads (O2.out.nx bB.out).own) (by have := HN.out; omega)
        have RD1c : Hid (Reads ((W2.drew.alloc (.cells #[.int .u32 net, .int .i64 b, .int .u32 z, .int .i64 u] 36)).alloc (.cells #[] 36)) ((W2.drew.alloc (.cells #[.int .u32 net, .int .i64 b, .int .u32 z, .int .i64 u] 36)).alloc (.cells #[] 36)).heap.size 4 none k (flat (L.take k))) := reads_take (OwnL.reads (O2.out.nx bC.out).own) (by have := HN.out; omega)
        have NB : Hid (Blk ((W2.drew.alloc (.cells #[] 36)).alloc (.cells #[.int .u32 net, .int .i64 b, .int .u32 z, .int .i64 u] 36)) (W2.heap.size + 1) 36 #[.int .u32 net, .int .i64 b, .int .u32 z, .int .i64 u]) := by
          have h := Blk.new (W2.drew.alloc (.cells #[] 36)) 36 #[.int .u32 net, .int .i64 b, .int .u32 z, .int .i64 u]
          rw [show (W2.drew.alloc (.cells #[] 36)).heap.size = W2.heap.size + 1 by simp] at h
          exact h
        have NC : Hid (Blk ((W2.drew.alloc (.cells #[.int .u32 net, .int .i64 b, .int .u32 z, .int .i64 u] 36)).alloc (.cells #[] 36)) W2.heap.size 36 #[.int .u32 net, .int .i64 b, .int .u32 z, .int .i64 u]) := (Blk.new W2.drew 36 #[.int .u32 net, .int .i64 b, .int .u32 z, .int .i64 u]).alloc _
        go_wp2
        go_region_law (first
          | (refine step_app stR rfl (.tmp 59) (.tmp 65) rfl W2.heap.size (.slice (some ⟨W2.drew.heap.size, 0, none⟩) 0 0) 0 [] rfl L1.out _ _ _ (flat (L.take k)) rfl RD1.out (flat_one _) (by omega) (by omega) Z1.out ?_
             intro v2 w2 own2 gr2 at2 bel2
             (simp only [Nat.zero_add, List.nil_append] at own2)
             obtain ⟨A2, c2, rfl⟩ := own_slice own2
             have b2 : Below W2.heap.size W2 w2 := (al (rf W2).drew _).trans bel2
             have z2 := b2.size
             have q0 : w2.cell? ⟨w.heap.size, 0, none⟩ = some (.int .u32 net) := (X2.out.nx b2).cell 0
             have q1 : w2.cell? ⟨w.heap.size, 1, none⟩ = some (.int .i64 b) := (X2.out.nx b2).cell 1
             have q2 : w2.cell? ⟨w.heap.size, 2, none⟩ = some (.int .u32 z) := (X2.out.nx b2).cell 2
             have q3 : w2.cell? ⟨w.heap.size, 3, none⟩ = some (.int .i64 u) := (X2.out.nx b2).cell 3
             have B2a : Hid (Below W2.heap.size W2 (w2.alloc (.cells #[.int .u32 net, .int .i64 b, .int .u32 z, .int .i64 u] 36))) := b2.alloc z2 _
             have L2a : Hid ((w2.alloc (.cells #[.int .u32 net, .int .i64 b, .int .u32 z, .int .i64 u] 36)).ownsRow W2.heap.size 36 4 (.slice A2 k c2) k (flat (L.take k))) := own_nx own2 (al (rf w2) _)
             have R2a : Hid (Reads (w2.alloc (.cells #[.int .u32 net, .int .i64 b, .int .u32 z, .int .i64 u] 36)) (w2.alloc (.cells #[.int .u32 net, .int .i64 b, .int .u32 z, .int .i64 u] 36)).heap.size 4 (some ⟨w2.heap.size, 0, none⟩) 1 (R4.cs ⟨net, b, z, u⟩)) := reads1 (r := ⟨net, b, z, u⟩) (Blk.new w2 _ _)
             clear own2 gr2 at2 bel2 b2)
          | (refine step_app stR rfl (.tmp 66) (.tmp 68) rfl W2.heap.size (.slice A2 k c2) k (flat (L.take k)) rfl L2a.out _ 1 1 (R4.cs ⟨net, b, z, u⟩) rfl R2a.out (r4_one _) (by omega) (by omega) B2a.out.size ?_
             intro v3 w3 own3 gr3 at3 bel3
             obtain ⟨A3, c3, rfl⟩ := own_slice own3
             have FO : Hid (w3.ownsRow W2.heap.size 36 4 (.slice A3 (k + 1) c3) (k + 1) (flat (L.take k) ++ R4.cs ⟨net, b, z, u⟩)) := own3
             have FB : Hid (Below W2.heap.size W2 w3) := B2a.out.trans bel3
             clear own3 gr3 at3 bel3)
          | (refine step_app stR rfl (.tmp 59) (.tmp 65) rfl W2.heap.size (.slice (some ⟨W2.drew.heap.size, 0, none⟩) 0 0) 0 [] rfl L1b.out _ _ _ (flat (L.take k)) rfl RD1b.out (flat_one _) (by omega) (by omega) bB.out.size ?_
             intro v2 w2 own2 gr2 at2 bel2
             (simp only [Nat.zero_add, List.nil_append] at own2)
             obtain ⟨A2, c2, rfl⟩ := own_slice own2
             have B2b : Hid (Below W2.heap.size W2 w2) := bB.out.trans bel2
             have L2b : Hid (w2.ownsRow W2.heap.size 36 4 (.slice A2 k c2) k (flat (L.take k))) := own2
             have R2b : Hid (Reads w2 w2.heap.size 4 (some ⟨W2.heap.size + 1, 0, none⟩) 1 (R4.cs ⟨net, b, z, u⟩)) := reads1 (r := ⟨net, b, z, u⟩) (NB.out.grown gr2 (by simp [Value.ownBlock]))
             clear own2 gr2 at2 bel2)
          | (refine step_app stR rfl (.tmp 66) (.tmp 68) rfl W2.heap.size (.slice A2 k c2) k (flat (L.take k)) rfl L2b.out _ 1 1 (R4.cs ⟨net, b, z, u⟩) rfl R2b.out (r4_one _) (by omega) (by omega) B2b.out.size ?_
             intro v3 w3 own3 gr3 at3 bel3
             obtain ⟨A3, c3, rfl⟩ := own_slice own3
             have FO : Hid (w3.ownsRow W2.heap.size 36 4 (.slice A3 (k + 1) c3) (k + 1) (flat (L.take k) ++ R4.cs ⟨net, b, z, u⟩)) := own3
             have FB : Hid (Below W2.heap.size W2 w3) := B2b.out.trans bel3
             clear own3 gr3 at3 bel3)
          | (refine step_app stR rfl (.tmp 59) (.tmp 65) rfl W2.heap.size (.slice (some ⟨W2.heap.size + 1, 0, none⟩) 0 0) 0 [] rfl L1c.out _ _ _ (flat (L.take k)) rfl RD1c.out (flat_one _) (by omega) (by omega) bC.out.size ?_
             intro v2 w2 own2 gr2 at2 bel2
             (simp only [Nat.zero_add, List.nil_append] at own2)
             obtain ⟨A2, c2, rfl⟩ := own_slice own2
             have B2c : Hid (Below W2.heap.size W2 w2) := bC.out.trans bel2
             have L2c : Hid (w2.ownsRow W2.heap.size 36 4 (.slice A2 k c2) k (flat (L.take k))) := own2
             have R2c : Hid (Reads w2 w2.heap.size 4 (some ⟨W2.heap.size, 0, none⟩) 1 (R4.cs ⟨net, b, z, u⟩)) := reads1 (r := ⟨net, b, z, u⟩) (NC.out.grown gr2 (by simp [Value.ownBlock]))
             clear own2 gr2 at2 bel2)
          | (refine step_app stR rfl (.tmp 66) (.tmp 68) rfl W2.heap.size (.slice A2 k c2) k (flat (L.take k)) rfl L2c.out _ 1 1 (R4.cs ⟨net, b, z, u⟩) rfl R2c.out (r4_one _) (by omega) (by omega) B2c.out.size ?_
             intro v3 w3 own3 gr3 at3 bel3
             obtain ⟨A3, c3, rfl⟩ := own_slice own3
             have FO : Hid (w3.ownsRow W2.heap.size 36 4 (.slice A3 (k + 1) c3) (k + 1) (flat (L.take k) ++ R4.cs ⟨net, b, z, u⟩)) := own3
             have FB : Hid (Below W2.heap.size W2 w3) := B2c.out.trans bel3
             clear own3 gr3 at3 bel3)
          | fail)
        all_goals
          have z3 := FB.out.size
          have O3 := Lib.hid (O2.out.nx FB.out)
          have c3t : w3.cell? ⟨t, 0, none⟩ = some (.slice none k c) := O3.out.tab.cell 0
          have RD3 := Lib.hid (reads_drop' (OwnL.reads O3.out.own) HN.out hk hnc)
          clear cT cTa cTb s0 s1 s2 s3 sa0 sa1 sa2 sa3 bB bC L1b L1c RD1b RD1c NB NC L1 RD1 Z1
          go_wp2_with (first
            | (at_builtin
               refine app_any stR rfl (.tmp 71) (.tmp 77) rfl W2.heap.size (.slice A3 (k + 1) c3) (k + 1) _ rfl FO.out _ _ _ (flat (L.drop k)) rfl (by have h9 := RD3.out; rw [cut_nil] at h9; rw [Nat.sub_self] at h9; exact h9) (flat_one _) (by omega) (by omega) z3 ?_
               intro v4 w4 own4 gr4 at4 bel4
               have e1 : flat (L.take k ++ (⟨net, b, z, u⟩ : R4) :: L.drop k) = flat (L.take k) ++ R4.cs ⟨net, b, z, u⟩ ++ flat (L.drop k) := (by rw [flat_app, List.append_assoc]; rfl)
               have e2 : (L.take k ++ (⟨net, b, z, u⟩ : R4) :: L.drop k).length = k + 1 + (k - k) := (by rw [List.length_append, List.length_take, List.length_cons, List.length_drop, HN.out, Nat.min_eq_left hk]; omega)
               have own5 : w4.ownsRow W2.heap.size 36 4 v4 (L.take k ++ (⟨net, b, z, u⟩ : R4) :: L.drop k).length (flat (L.take k ++ (⟨net, b, z, u⟩ : R4) :: L.drop k)) := (by rw [e1, e2, Nat.sub_self]; exact own4)
               obtain ⟨N, hNN⟩ : ∃ N, (L.take k ++ (⟨net, b, z, u⟩ : R4) :: L.drop k).length = N := ⟨_, rfl⟩
               rw [hNN] at own5
               obtain ⟨A4, c4, hv4⟩ := own_slice own5
               subst hv4
               have HNN := Lib.hid hNN
               have OW5 := Lib.hid own5
               have B4 : Hid (Below W2.heap.size W2 w4) := FB.out.trans bel4
               have O4 := Lib.hid (O2.out.nx B4.out)
               have c4h : w4.cell? ⟨t, 0, none⟩ = some (.slice none k c) := O4.out.tab.cell 0
               have f4 := O4.out.tab.frozen 0
               clear e1 e2 hNN own4 own5)
            | fail)
          have HE : Hid (RqP w B t (.slice none k c) (addL L ⟨net, b, z, u⟩).1 (addL L ⟨net, b, z, u⟩).2 (.returned (.int .i64 0)) (w4.setCell ⟨t, 0, none⟩ (.slice A4 N c4))) := rq_end HO.out HB.out EA.out HIN.out B2.out B4.out (by unfold OwnL; rw [HNN.out]; exact OW5.out)
          clear c3t c4h f4
          go_wp2
          go_ret
          exact HE.out
      · subst hpc
        have HIN : Hid (insL L ⟨net, b, z, u⟩ = L.take k ++ (⟨net, b, z, u⟩ : R4) :: L.drop k) := tw_ins (by have := HN.out; omega) HK.out (fun y hy => by have := (List.getElem?_eq_some_iff.1 hy).1; have := HN.out; omega)
        go_wp2
        refine wp_region_below (by kernel_rfl) (by as_aux_lemma => exact lexB_of _ (by kernel_rfl) (by kernel_rfl)) ?_
        repeat (go_big_quiet_step (fail))
        refine wpQuiet_nil ?_
        intro W2 hw'
        have hW2 : Below wr.heap.size wr W2 := by obtain ⟨q, hz⟩ := hw'; rw [hz]; exact q.h
        have HB2 := Lib.hid (nx HB1.out hW2)
        have O2 := Lib.hid (O1.out.nx HB2.out)
        have X2 := Lib.hid (XW1.out.nx HB2.out)
        have B2 := Lib.hid (nx BW1.out HB2.out)
        clear hW2 hw' T0 R0 R1 R2 R3 ct
        obtain ⟨kn, hkn2⟩ : ∃ q : Nat, q = k := ⟨_, rfl⟩
        have k2 : (k : Int) ≤ k := by omega
        have hkb : k ≤ 64 := by omega
        have cT : W2.drew.cell? ⟨t, 0, none⟩ = some (.slice (some ⟨g, 0, none⟩) k k) := O2.out.tab.cell 0
        have cTa : ∀ o, (W2.alloc o).cell? ⟨t, 0, none⟩ = some (.slice (some ⟨g, 0, none⟩) k k) := fun o => (O2.out.nx (al (rf W2) o)).tab.cell 0
        have cTb : ∀ o o', ((W2.alloc o).alloc o').cell? ⟨t, 0, none⟩ = some (.slice (some ⟨g, 0, none⟩) k k) := fun o o' => (O2.out.nx (al (al (rf W2) o) o')).tab.cell 0
        have XA : Hid (∀ o, Blk (W2.alloc o) w.heap.size 36 #[.int .u32 net, .int .i64 b, .int .u32 z, .int .i64 u]) := fun o => X2.out.nx (al (rf W2) o)
        have sa0 : ∀ o, (W2.alloc o).cell? ⟨w.heap.size, 0, none⟩ = some (.int .u32 net) := fun o => (XA.out o).cell 0
        have sa1 : ∀ o, (W2.alloc o).cell? ⟨w.heap.size, 1, none⟩ = some (.int .i64 b) := fun o => (XA.out o).cell 1
        have sa2 : ∀ o, (W2.alloc o).cell? ⟨w.heap.size, 2, none⟩ = some (.int .u32 z) := fun o => (XA.out o).cell 2
        have sa3 : ∀ o, (W2.alloc o).cell? ⟨w.heap.size, 3, none⟩ = some (.int .i64 u) := fun o => (XA.out o).cell 3
        have s0 : W2.drew.cell? ⟨w.heap.size, 0, none⟩ = some (.int .u32 net) := X2.out.cell 0
        have s1 : W2.drew.cell? ⟨w.heap.size, 1, none⟩ = some (.int .i64 b) := X2.out.cell 1
        have s2 : W2.drew.cell? ⟨w.heap.size, 2, none⟩ = some (.int .u32 z) := X2.out.cell 2
        have s3 : W2.drew.cell? ⟨w.heap.size, 3, none⟩ = some (.int .i64 u) := X2.out.cell 3
        have L1 : Hid ((W2.drew.alloc (.cells #[] 36)).ownsRow W2.heap.size 36 4 (.slice (some ⟨W2.drew.heap.size, 0, none⟩) 0 0) 0 []) := own_lit W2.drew #[] 0 rfl (Nat.le_refl _) (by decide) rfl
        have RD1 : Hid (Reads (W2.drew.alloc (.cells #[] 36)) (W2.drew.alloc (.cells #[] 36)).heap.size 4 (some ⟨g, 0, none⟩) k (flat (L.take k))) := reads_take (OwnL.reads (O2.out.nx (al (rf W2).drew _)).own) (by have := HN.out; omega)
        have Z1 : Hid (W2.heap.size ≤ (W2.drew.alloc (.cells #[] 36)).heap.size) := (al (rf W2).drew _).size
        have bB : Hid (Below W2.heap.size W2 ((W2.drew.alloc (.cells #[] 36)).alloc (.cells #[.int .u32 net, .int .i64 b, .int .u32 z, .int .i64 u] 36))) := al (al (rf W2).drew _) _
        have bC : Hid (Below W2.heap.size W2 ((W2.drew.alloc (.cells #[.int .u32 net, .int .i64 b, .int .u32 z, .int .i64 u] 36)).alloc (.cells #[] 36))) := al (al (rf W2).drew _) _
        have L1b : Hid (((W2.drew.alloc (.cells #[] 36)).alloc (.cells #[.int .u32 net, .int .i64 b, .int .u32 z, .int .i64 u] 36)).ownsRow W2.heap.size 36 4 (.slice (some ⟨W2.drew.heap.size, 0, none⟩) 0 0) 0 []) := own_nx L1.out (al (rf _) _)
        have L1c : Hid (((W2.drew.alloc (.cells #[.int .u32 net, .int .i64 b, .int .u32 z, .int .i64 u] 36)).alloc (.cells #[] 36)).ownsRow W2.heap.size 36 4 (.slice (some ⟨W2.heap.size + 1, 0, none⟩) 0 0) 0 []) := own_lit (W2.drew.alloc (.cells #[.int .u32 net, .int .i64 b, .int .u32 z, .int .i64 u] 36)) #[] 0 (by simp) (by omega) (by decide) rfl
        have RD1b : Hid (Reads ((W2.drew.alloc (.cells #[] 36)).alloc (.cells #[.int .u32 net, .int .i64 b, .int .u32 z, .int .i64 u] 36)) ((W2.drew.alloc (.cells #[] 36)).alloc (.cells #[.int .u32 net, .int .i64 b, .int .u32 z, .int .i64 u] 36)).heap.size 4 (some ⟨g, 0, none⟩) k (flat (L.take k))) := reads_take (OwnL.reads (O2.out.nx bB.out).own) (by have := HN.out; omega)
        have RD1c : Hid (Reads ((W2.drew.alloc (.cells #[.int .u32 net, .int .i64 b, .int .u32 z, .int .i64 u] 36)).alloc (.cells #[] 36)) ((W2.drew.alloc (.cells #[.int .u32 net, .int .i64 b, .int .u32 z, .int .i64 u] 36)).alloc (.cells #[] 36)).heap.size 4 (some ⟨g, 0, none⟩) k (flat (L.take k))) := reads_take (OwnL.reads (O2.out.nx bC.out).own) (by have := HN.out; omega)
        have NB : Hid (Blk ((W2.drew.alloc (.cells #[] 36)).alloc (.cells #[.int .u32 net, .int .i64 b, .int .u32 z, .int .i64 u] 36)) (W2.heap.size + 1) 36 #[.int .u32 net, .int .i64 b, .int .u32 z, .int .i64 u]) := by
          have h := Blk.new (W2.drew.alloc (.cells #[] 36)) 36 #[.int .u32 net, .int .i64 b, .int .u32 z, .int .i64 u]
          rw [show (W2.drew.alloc (.cells #[] 36)).heap.size = W2.heap.size + 1 by simp] at h
          exact h
        have NC : Hid (Blk ((W2.drew.alloc (.cells #[.int .u32 net, .int .i64 b, .int .u32 z, .int .i64 u] 36)).alloc (.cells #[] 36)) W2.heap.size 36 #[.int .u32 net, .int .i64 b, .int .u32 z, .int .i64 u]) := (Blk.new W2.drew 36 #[.int .u32 net, .int .i64 b, .int .u32 z, .int .i64 u]).alloc _
        go_wp2
        go_region_law (first
          | (refine step_app stR rfl (.tmp 59) (.tmp 65) rfl W2.heap.size (.slice (some ⟨W2.drew.heap.size, 0, none⟩) 0 0) 0 [] rfl L1.out _ _ _ (flat (L.take k)) rfl RD1.out (flat_one _) (by omega) (by omega) Z1.out ?_
             intro v2 w2 own2 gr2 at2 bel2
             (simp only [Nat.zero_add, List.nil_append] at own2)
             obtain ⟨A2, c2, rfl⟩ := own_slice own2
             have b2 : Below W2.heap.size W2 w2 := (al (rf W2).drew _).trans bel2
             have z2 := b2.size
             have q0 : w2.cell? ⟨w.heap.size, 0, none⟩ = some (.int .u32 net) := (X2.out.nx b2).cell 0
             have q1 : w2.cell? ⟨w.heap.size, 1, none⟩ = some (.int .i64 b) := (X2.out.nx b2).cell 1
             have q2 : w2.cell? ⟨w.heap.size, 2, none⟩ = some (.int .u32 z) := (X2.out.nx b2).cell 2
             have q3 : w2.cell? ⟨w.heap.size, 3, none⟩ = some (.int .i64 u) := (X2.out.nx b2).cell 3
             have B2a : Hid (Below W2.heap.size W2 (w2.alloc (.cells #[.int .u32 net, .int .i64 b, .int .u32 z, .int .i64 u] 36))) := b2.alloc z2 _
             have L2a : Hid ((w2.alloc (.cells #[.int .u32 net, .int .i64 b, .int .u32 z, .int .i64 u] 36)).ownsRow W2.heap.size 36 4 (.slice A2 k c2) k (flat (L.take k))) := own_nx own2 (al (rf w2) _)
             have R2a : Hid (Reads (w2.alloc (.cells #[.int .u32 net, .int .i64 b, .int .u32 z, .int .i64 u] 36)) (w2.alloc (.cells #[.int .u32 net, .int .i64 b, .int .u32 z, .int .i64 u] 36)).heap.size 4 (some ⟨w2.heap.size, 0, none⟩) 1 (R4.cs ⟨net, b, z, u⟩)) := reads1 (r := ⟨net, b, z, u⟩) (Blk.new w2 _ _)
             clear own2 gr2 at2 bel2 b2)
          | (refine step_app stR rfl (.tmp 66) (.tmp 68) rfl W2.heap.size (.slice A2 k c2) k (flat (L.take k)) rfl L2a.out _ 1 1 (R4.cs ⟨net, b, z, u⟩) rfl R2a.out (r4_one _) (by omega) (by omega) B2a.out.size ?_
             intro v3 w3 own3 gr3 at3 bel3
             obtain ⟨A3, c3, rfl⟩ := own_slice own3
             have FO : Hid (w3.ownsRow W2.heap.size 36 4 (.slice A3 (k + 1) c3) (k + 1) (flat (L.take k) ++ R4.cs ⟨net, b, z, u⟩)) := own3
             have FB : Hid (Below W2.heap.size W2 w3) := B2a.out.trans bel3
             clear own3 gr3 at3 bel3)
          | (refine step_app stR rfl (.tmp 59) (.tmp 65) rfl W2.heap.size (.slice (some ⟨W2.drew.heap.size, 0, none⟩) 0 0) 0 [] rfl L1b.out _ _ _ (flat (L.take k)) rfl RD1b.out (flat_one _) (by omega) (by omega) bB.out.size ?_
             intro v2 w2 own2 gr2 at2 bel2
             (simp only [Nat.zero_add, List.nil_append] at own2)
             obtain ⟨A2, c2, rfl⟩ := own_slice own2
             have B2b : Hid (Below W2.heap.size W2 w2) := bB.out.trans bel2
             have L2b : Hid (w2.ownsRow W2.heap.size 36 4 (.slice A2 k c2) k (flat (L.take k))) := own2
             have R2b : Hid (Reads w2 w2.heap.size 4 (some ⟨W2.heap.size + 1, 0, none⟩) 1 (R4.cs ⟨net, b, z, u⟩)) := reads1 (r := ⟨net, b, z, u⟩) (NB.out.grown gr2 (by simp [Value.ownBlock]))
             clear own2 gr2 at2 bel2)
          | (refine step_app stR rfl (.tmp 66) (.tmp 68) rfl W2.heap.size (.slice A2 k c2) k (flat (L.take k)) rfl L2b.out _ 1 1 (R4.cs ⟨net, b, z, u⟩) rfl R2b.out (r4_one _) (by omega) (by omega) B2b.out.size ?_
             intro v3 w3 own3 gr3 at3 bel3
             obtain ⟨A3, c3, rfl⟩ := own_slice own3
             have FO : Hid (w3.ownsRow W2.heap.size 36 4 (.slice A3 (k + 1) c3) (k + 1) (flat (L.take k) ++ R4.cs ⟨net, b, z, u⟩)) := own3
             have FB : Hid (Below W2.heap.size W2 w3) := B2b.out.trans bel3
             clear own3 gr3 at3 bel3)
          | (refine step_app stR rfl (.tmp 59) (.tmp 65) rfl W2.heap.size (.slice (some ⟨W2.heap.size + 1, 0, none⟩) 0 0) 0 [] rfl L1c.out _ _ _ (flat (L.take k)) rfl RD1c.out (flat_one _) (by omega) (by omega) bC.out.size ?_
             intro v2 w2 own2 gr2 at2 bel2
             (simp only [Nat.zero_add, List.nil_append] at own2)
             obtain ⟨A2, c2, rfl⟩ := own_slice own2
             have B2c : Hid (Below W2.heap.size W2 w2) := bC.out.trans bel2
             have L2c : Hid (w2.ownsRow W2.heap.size 36 4 (.slice A2 k c2) k (flat (L.take k))) := own2
             have R2c : Hid (Reads w2 w2.heap.size 4 (some ⟨W2.heap.size, 0, none⟩) 1 (R4.cs ⟨net, b, z, u⟩)) := reads1 (r := ⟨net, b, z, u⟩) (NC.out.grown gr2 (by simp [Value.ownBlock]))
             clear own2 gr2 at2 bel2)
          | (refine step_app stR rfl (.tmp 66) (.tmp 68) rfl W2.heap.size (.slice A2 k c2) k (flat (L.take k)) rfl L2c.out _ 1 1 (R4.cs ⟨net, b, z, u⟩) rfl R2c.out (r4_one _) (by omega) (by omega) B2c.out.size ?_
             intro v3 w3 own3 gr3 at3 bel3
             obtain ⟨A3, c3, rfl⟩ := own_slice own3
             have FO : Hid (w3.ownsRow W2.heap.size 36 4 (.slice A3 (k + 1) c3) (k + 1) (flat (L.take k) ++ R4.cs ⟨net, b, z, u⟩)) := own3
             have FB : Hid (Below W2.heap.size W2 w3) := B2c.out.trans bel3
             clear own3 gr3 at3 bel3)
          | fail)
        all_goals
          have z3 := FB.out.size
          have O3 := Lib.hid (O2.out.nx FB.out)
          have c3t : w3.cell? ⟨t, 0, none⟩ = some (.slice (some ⟨g, 0, none⟩) k k) := O3.out.tab.cell 0
          have RD3 := Lib.hid (reads_drop' (OwnL.reads O3.out.own) HN.out hk hnc)
          clear cT cTa cTb s0 s1 s2 s3 sa0 sa1 sa2 sa3 bB bC L1b L1c RD1b RD1c NB NC L1 RD1 Z1
          go_wp2_with (first
            | (at_builtin
               refine app_any stR rfl (.tmp 71) (.tmp 77) rfl W2.heap.size (.slice A3 (k + 1) c3) (k + 1) _ rfl FO.out _ _ _ (flat (L.drop k)) rfl (by have h9 := RD3.out; rw [cut_eq] at h9; rw [Nat.sub_self] at h9; exact h9) (flat_one _) (by omega) (by omega) z3 ?_
               intro v4 w4 own4 gr4 at4 bel4
               have e1 : flat (L.take k ++ (⟨net, b, z, u⟩ : R4) :: L.drop k) = flat (L.take k) ++ R4.cs ⟨net, b, z, u⟩ ++ flat (L.drop k) := (by rw [flat_app, List.append_assoc]; rfl)
               have e2 : (L.take k ++ (⟨net, b, z, u⟩ : R4) :: L.drop k).length = k + 1 + (k - k) := (by rw [List.length_append, List.length_take, List.length_cons, List.length_drop, HN.out, Nat.min_eq_left hk]; omega)
               have own5 : w4.ownsRow W2.heap.size 36 4 v4 (L.take k ++ (⟨net, b, z, u⟩ : R4) :: L.drop k).length (flat (L.take k ++ (⟨net, b, z, u⟩ : R4) :: L.drop k)) := (by rw [e1, e2, Nat.sub_self]; exact own4)
               obtain ⟨N, hNN⟩ : ∃ N, (L.take k ++ (⟨net, b, z, u⟩ : R4) :: L.drop k).length = N := ⟨_, rfl⟩
               rw [hNN] at own5
               obtain ⟨A4, c4, hv4⟩ := own_slice own5
               subst hv4
               have HNN := Lib.hid hNN
               have OW5 := Lib.hid own5
               have B4 : Hid (Below W2.heap.size W2 w4) := FB.out.trans bel4
               have O4 := Lib.hid (O2.out.nx B4.out)
               have c4h : w4.cell? ⟨t, 0, none⟩ = some (.slice (some ⟨g, 0, none⟩) k k) := O4.out.tab.cell 0
               have f4 := O4.out.tab.frozen 0
               clear e1 e2 hNN own4 own5)
            | fail)
          have HE : Hid (RqP w B t (.slice (some ⟨g, 0, none⟩) k k) (addL L ⟨net, b, z, u⟩).1 (addL L ⟨net, b, z, u⟩).2 (.returned (.int .i64 0)) (w4.setCell ⟨t, 0, none⟩ (.slice A4 N c4))) := rq_end HO.out HB.out EA.out HIN.out B2.out B4.out (by unfold OwnL; rw [HNN.out]; exact OW5.out)
          clear c3t c4h f4
          go_wp2
          go_ret
          exact HE.out
      · have HIN : Hid (insL L ⟨net, b, z, u⟩ = L.take k ++ (⟨net, b, z, u⟩ : R4) :: L.drop k) := tw_ins (by have := HN.out; omega) HK.out (fun y hy => by have := (List.getElem?_eq_some_iff.1 hy).1; have := HN.out; omega)
        go_wp2
        refine wp_region_below (by kernel_rfl) (by as_aux_lemma => exact lexB_of _ (by kernel_rfl) (by kernel_rfl)) ?_
        repeat (go_big_quiet_step (fail))
        refine wpQuiet_nil ?_
        intro W2 hw'
        have hW2 : Below wr.heap.size wr W2 := by obtain ⟨q, hz⟩ := hw'; rw [hz]; exact q.h
        have HB2 := Lib.hid (nx HB1.out hW2)
        have O2 := Lib.hid (O1.out.nx HB2.out)
        have X2 := Lib.hid (XW1.out.nx HB2.out)
        have B2 := Lib.hid (nx BW1.out HB2.out)
        clear hW2 hw' T0 R0 R1 R2 R3 ct
        obtain ⟨kn, hkn2⟩ : ∃ q : Nat, q = k := ⟨_, rfl⟩
        have k2 : (k : Int) ≤ c := by omega
        have hkb : k ≤ 64 := by omega
        have cT : W2.drew.cell? ⟨t, 0, none⟩ = some (.slice (some ⟨g, 0, none⟩) k c) := O2.out.tab.cell 0
        have cTa : ∀ o, (W2.alloc o).cell? ⟨t, 0, none⟩ = some (.slice (some ⟨g, 0, none⟩) k c) := fun o => (O2.out.nx (al (rf W2) o)).tab.cell 0
        have cTb : ∀ o o', ((W2.alloc o).alloc o').cell? ⟨t, 0, none⟩ = some (.slice (some ⟨g, 0, none⟩) k c) := fun o o' => (O2.out.nx (al (al (rf W2) o) o')).tab.cell 0
        have XA : Hid (∀ o, Blk (W2.alloc o) w.heap.size 36 #[.int .u32 net, .int .i64 b, .int .u32 z, .int .i64 u]) := fun o => X2.out.nx (al (rf W2) o)
        have sa0 : ∀ o, (W2.alloc o).cell? ⟨w.heap.size, 0, none⟩ = some (.int .u32 net) := fun o => (XA.out o).cell 0
        have sa1 : ∀ o, (W2.alloc o).cell? ⟨w.heap.size, 1, none⟩ = some (.int .i64 b) := fun o => (XA.out o).cell 1
        have sa2 : ∀ o, (W2.alloc o).cell? ⟨w.heap.size, 2, none⟩ = some (.int .u32 z) := fun o => (XA.out o).cell 2
        have sa3 : ∀ o, (W2.alloc o).cell? ⟨w.heap.size, 3, none⟩ = some (.int .i64 u) := fun o => (XA.out o).cell 3
        have s0 : W2.drew.cell? ⟨w.heap.size, 0, none⟩ = some (.int .u32 net) := X2.out.cell 0
        have s1 : W2.drew.cell? ⟨w.heap.size, 1, none⟩ = some (.int .i64 b) := X2.out.cell 1
        have s2 : W2.drew.cell? ⟨w.heap.size, 2, none⟩ = some (.int .u32 z) := X2.out.cell 2
        have s3 : W2.drew.cell? ⟨w.heap.size, 3, none⟩ = some (.int .i64 u) := X2.out.cell 3
        have L1 : Hid ((W2.drew.alloc (.cells #[] 36)).ownsRow W2.heap.size 36 4 (.slice (some ⟨W2.drew.heap.size, 0, none⟩) 0 0) 0 []) := own_lit W2.drew #[] 0 rfl (Nat.le_refl _) (by decide) rfl
        have RD1 : Hid (Reads (W2.drew.alloc (.cells #[] 36)) (W2.drew.alloc (.cells #[] 36)).heap.size 4 (some ⟨g, 0, none⟩) k (flat (L.take k))) := reads_take (OwnL.reads (O2.out.nx (al (rf W2).drew _)).own) (by have := HN.out; omega)
        have Z1 : Hid (W2.heap.size ≤ (W2.drew.alloc (.cells #[] 36)).heap.size) := (al (rf W2).drew _).size
        have bB : Hid (Below W2.heap.size W2 ((W2.drew.alloc (.cells #[] 36)).alloc (.cells #[.int .u32 net, .int .i64 b, .int .u32 z, .int .i64 u] 36))) := al (al (rf W2).drew _) _
        have bC : Hid (Below W2.heap.size W2 ((W2.drew.alloc (.cells #[.int .u32 net, .int .i64 b, .int .u32 z, .int .i64 u] 36)).alloc (.cells #[] 36))) := al (al (rf W2).drew _) _
        have L1b : Hid (((W2.drew.alloc (.cells #[] 36)).alloc (.cells #[.int .u32 net, .int .i64 b, .int .u32 z, .int .i64 u] 36)).ownsRow W2.heap.size 36 4 (.slice (some ⟨W2.drew.heap.size, 0, none⟩) 0 0) 0 []) := own_nx L1.out (al (rf _) _)
        have L1c : Hid (((W2.drew.alloc (.cells #[.int .u32 net, .int .i64 b, .int .u32 z, .int .i64 u] 36)).alloc (.cells #[] 36)).ownsRow W2.heap.size 36 4 (.slice (some ⟨W2.heap.size + 1, 0, none⟩) 0 0) 0 []) := own_lit (W2.drew.alloc (.cells #[.int .u32 net, .int .i64 b, .int .u32 z, .int .i64 u] 36)) #[] 0 (by simp) (by omega) (by decide) rfl
        have RD1b : Hid (Reads ((W2.drew.alloc (.cells #[] 36)).alloc (.cells #[.int .u32 net, .int .i64 b, .int .u32 z, .int .i64 u] 36)) ((W2.drew.alloc (.cells #[] 36)).alloc (.cells #[.int .u32 net, .int .i64 b, .int .u32 z, .int .i64 u] 36)).heap.size 4 (some ⟨g, 0, none⟩) k (flat (L.take k))) := reads_take (OwnL.reads (O2.out.nx bB.out).own) (by have := HN.out; omega)
        have RD1c : Hid (Reads ((W2.drew.alloc (.cells #[.int .u32 net, .int .i64 b, .int .u32 z, .int .i64 u] 36)).alloc (.cells #[] 36)) ((W2.drew.alloc (.cells #[.int .u32 net, .int .i64 b, .int .u32 z, .int .i64 u] 36)).alloc (.cells #[] 36)).heap.size 4 (some ⟨g, 0, none⟩) k (flat (L.take k))) := reads_take (OwnL.reads (O2.out.nx bC.out).own) (by have := HN.out; omega)
        have NB : Hid (Blk ((W2.drew.alloc (.cells #[] 36)).alloc (.cells #[.int .u32 net, .int .i64 b, .int .u32 z, .int .i64 u] 36)) (W2.heap.size + 1) 36 #[.int .u32 net, .int .i64 b, .int .u32 z, .int .i64 u]) := by
          have h := Blk.new (W2.drew.alloc (.cells #[] 36)) 36 #[.int .u32 net, .int .i64 b, .int .u32 z, .int .i64 u]
          rw [show (W2.drew.alloc (.cells #[] 36)).heap.size = W2.heap.size + 1 by simp] at h
          exact h
        have NC : Hid (Blk ((W2.drew.alloc (.cells #[.int .u32 net, .int .i64 b, .int .u32 z, .int .i64 u] 36)).alloc (.cells #[] 36)) W2.heap.size 36 #[.int .u32 net, .int .i64 b, .int .u32 z, .int .i64 u]) := (Blk.new W2.drew 36 #[.int .u32 net, .int .i64 b, .int .u32 z, .int .i64 u]).alloc _
        go_wp2
        go_region_law (first
          | (refine step_app stR rfl (.tmp 59) (.tmp 65) rfl W2.heap.size (.slice (some ⟨W2.drew.heap.size, 0, none⟩) 0 0) 0 [] rfl L1.out _ _ _ (flat (L.take k)) rfl RD1.out (flat_one _) (by omega) (by omega) Z1.out ?_
             intro v2 w2 own2 gr2 at2 bel2
             (simp only [Nat.zero_add, List.nil_append] at own2)
             obtain ⟨A2, c2, rfl⟩ := own_slice own2
             have b2 : Below W2.heap.size W2 w2 := (al (rf W2).drew _).trans bel2
             have z2 := b2.size
             have q0 : w2.cell? ⟨w.heap.size, 0, none⟩ = some (.int .u32 net) := (X2.out.nx b2).cell 0
             have q1 : w2.cell? ⟨w.heap.size, 1, none⟩ = some (.int .i64 b) := (X2.out.nx b2).cell 1
             have q2 : w2.cell? ⟨w.heap.size, 2, none⟩ = some (.int .u32 z) := (X2.out.nx b2).cell 2
             have q3 : w2.cell? ⟨w.heap.size, 3, none⟩ = some (.int .i64 u) := (X2.out.nx b2).cell 3
             have B2a : Hid (Below W2.heap.size W2 (w2.alloc (.cells #[.int .u32 net, .int .i64 b, .int .u32 z, .int .i64 u] 36))) := b2.alloc z2 _
             have L2a : Hid ((w2.alloc (.cells #[.int .u32 net, .int .i64 b, .int .u32 z, .int .i64 u] 36)).ownsRow W2.heap.size 36 4 (.slice A2 k c2) k (flat (L.take k))) := own_nx own2 (al (rf w2) _)
             have R2a : Hid (Reads (w2.alloc (.cells #[.int .u32 net, .int .i64 b, .int .u32 z, .int .i64 u] 36)) (w2.alloc (.cells #[.int .u32 net, .int .i64 b, .int .u32 z, .int .i64 u] 36)).heap.size 4 (some ⟨w2.heap.size, 0, none⟩) 1 (R4.cs ⟨net, b, z, u⟩)) := reads1 (r := ⟨net, b, z, u⟩) (Blk.new w2 _ _)
             clear own2 gr2 at2 bel2 b2)
          | (refine step_app stR rfl (.tmp 66) (.tmp 68) rfl W2.heap.size (.slice A2 k c2) k (flat (L.take k)) rfl L2a.out _ 1 1 (R4.cs ⟨net, b, z, u⟩) rfl R2a.out (r4_one _) (by omega) (by omega) B2a.out.size ?_
             intro v3 w3 own3 gr3 at3 bel3
             obtain ⟨A3, c3, rfl⟩ := own_slice own3
             have FO : Hid (w3.ownsRow W2.heap.size 36 4 (.slice A3 (k + 1) c3) (k + 1) (flat (L.take k) ++ R4.cs ⟨net, b, z, u⟩)) := own3
             have FB : Hid (Below W2.heap.size W2 w3) := B2a.out.trans bel3
             clear own3 gr3 at3 bel3)
          | (refine step_app stR rfl (.tmp 59) (.tmp 65) rfl W2.heap.size (.slice (some ⟨W2.drew.heap.size, 0, none⟩) 0 0) 0 [] rfl L1b.out _ _ _ (flat (L.take k)) rfl RD1b.out (flat_one _) (by omega) (by omega) bB.out.size ?_
             intro v2 w2 own2 gr2 at2 bel2
             (simp only [Nat.zero_add, List.nil_append] at own2)
             obtain ⟨A2, c2, rfl⟩ := own_slice own2
             have B2b : Hid (Below W2.heap.size W2 w2) := bB.out.trans bel2
             have L2b : Hid (w2.ownsRow W2.heap.size 36 4 (.slice A2 k c2) k (flat (L.take k))) := own2
             have R2b : Hid (Reads w2 w2.heap.size 4 (some ⟨W2.heap.size + 1, 0, none⟩) 1 (R4.cs ⟨net, b, z, u⟩)) := reads1 (r := ⟨net, b, z, u⟩) (NB.out.grown gr2 (by simp [Value.ownBlock]))
             clear own2 gr2 at2 bel2)
          | (refine step_app stR rfl (.tmp 66) (.tmp 68) rfl W2.heap.size (.slice A2 k c2) k (flat (L.take k)) rfl L2b.out _ 1 1 (R4.cs ⟨net, b, z, u⟩) rfl R2b.out (r4_one _) (by omega) (by omega) B2b.out.size ?_
             intro v3 w3 own3 gr3 at3 bel3
             obtain ⟨A3, c3, rfl⟩ := own_slice own3
             have FO : Hid (w3.ownsRow W2.heap.size 36 4 (.slice A3 (k + 1) c3) (k + 1) (flat (L.take k) ++ R4.cs ⟨net, b, z, u⟩)) := own3
             have FB : Hid (Below W2.heap.size W2 w3) := B2b.out.trans bel3
             clear own3 gr3 at3 bel3)
          | (refine step_app stR rfl (.tmp 59) (.tmp 65) rfl W2.heap.size (.slice (some ⟨W2.heap.size + 1, 0, none⟩) 0 0) 0 [] rfl L1c.out _ _ _ (flat (L.take k)) rfl RD1c.out (flat_one _) (by omega) (by omega) bC.out.size ?_
             intro v2 w2 own2 gr2 at2 bel2
             (simp only [Nat.zero_add, List.nil_append] at own2)
             obtain ⟨A2, c2, rfl⟩ := own_slice own2
             have B2c : Hid (Below W2.heap.size W2 w2) := bC.out.trans bel2
             have L2c : Hid (w2.ownsRow W2.heap.size 36 4 (.slice A2 k c2) k (flat (L.take k))) := own2
             have R2c : Hid (Reads w2 w2.heap.size 4 (some ⟨W2.heap.size, 0, none⟩) 1 (R4.cs ⟨net, b, z, u⟩)) := reads1 (r := ⟨net, b, z, u⟩) (NC.out.grown gr2 (by simp [Value.ownBlock]))
             clear own2 gr2 at2 bel2)
          | (refine step_app stR rfl (.tmp 66) (.tmp 68) rfl W2.heap.size (.slice A2 k c2) k (flat (L.take k)) rfl L2c.out _ 1 1 (R4.cs ⟨net, b, z, u⟩) rfl R2c.out (r4_one _) (by omega) (by omega) B2c.out.size ?_
             intro v3 w3 own3 gr3 at3 bel3
             obtain ⟨A3, c3, rfl⟩ := own_slice own3
             have FO : Hid (w3.ownsRow W2.heap.size 36 4 (.slice A3 (k + 1) c3) (k + 1) (flat (L.take k) ++ R4.cs ⟨net, b, z, u⟩)) := own3
             have FB : Hid (Below W2.heap.size W2 w3) := B2c.out.trans bel3
             clear own3 gr3 at3 bel3)
          | fail)
        all_goals
          have z3 := FB.out.size
          have O3 := Lib.hid (O2.out.nx FB.out)
          have c3t : w3.cell? ⟨t, 0, none⟩ = some (.slice (some ⟨g, 0, none⟩) k c) := O3.out.tab.cell 0
          have RD3 := Lib.hid (reads_drop' (OwnL.reads O3.out.own) HN.out hk hnc)
          clear cT cTa cTb s0 s1 s2 s3 sa0 sa1 sa2 sa3 bB bC L1b L1c RD1b RD1c NB NC L1 RD1 Z1
          go_wp2_with (first
            | (at_builtin
               refine app_any stR rfl (.tmp 71) (.tmp 77) rfl W2.heap.size (.slice A3 (k + 1) c3) (k + 1) _ rfl FO.out _ _ _ (flat (L.drop k)) rfl (by have h9 := RD3.out; rw [cut_some hcp] at h9; rw [Nat.sub_self] at h9; exact h9) (flat_one _) (by omega) (by omega) z3 ?_
               intro v4 w4 own4 gr4 at4 bel4
               have e1 : flat (L.take k ++ (⟨net, b, z, u⟩ : R4) :: L.drop k) = flat (L.take k) ++ R4.cs ⟨net, b, z, u⟩ ++ flat (L.drop k) := (by rw [flat_app, List.append_assoc]; rfl)
               have e2 : (L.take k ++ (⟨net, b, z, u⟩ : R4) :: L.drop k).length = k + 1 + (k - k) := (by rw [List.length_append, List.length_take, List.length_cons, List.length_drop, HN.out, Nat.min_eq_left hk]; omega)
               have own5 : w4.ownsRow W2.heap.size 36 4 v4 (L.take k ++ (⟨net, b, z, u⟩ : R4) :: L.drop k).length (flat (L.take k ++ (⟨net, b, z, u⟩ : R4) :: L.drop k)) := (by rw [e1, e2, Nat.sub_self]; exact own4)
               obtain ⟨N, hNN⟩ : ∃ N, (L.take k ++ (⟨net, b, z, u⟩ : R4) :: L.drop k).length = N := ⟨_, rfl⟩
               rw [hNN] at own5
               obtain ⟨A4, c4, hv4⟩ := own_slice own5
               subst hv4
               have HNN := Lib.hid hNN
               have OW5 := Lib.hid own5
               have B4 : Hid (Below W2.heap.size W2 w4) := FB.out.trans bel4
               have O4 := Lib.hid (O2.out.nx B4.out)
               have c4h : w4.cell? ⟨t, 0, none⟩ = some (.slice (some ⟨g, 0, none⟩) k c) := O4.out.tab.cell 0
               have f4 := O4.out.tab.frozen 0
               clear e1 e2 hNN own4 own5)
            | fail)
          have HE : Hid (RqP w B t (.slice (some ⟨g, 0, none⟩) k c) (addL L ⟨net, b, z, u⟩).1 (addL L ⟨net, b, z, u⟩).2 (.returned (.int .i64 0)) (w4.setCell ⟨t, 0, none⟩ (.slice A4 N c4))) := rq_end HO.out HB.out EA.out HIN.out B2.out B4.out (by unfold OwnL; rw [HNN.out]; exact OW5.out)
          clear c3t c4h f4
          go_wp2
          go_ret
          exact HE.out
end Go.Proofs.Ytmboadgmhafedaa
