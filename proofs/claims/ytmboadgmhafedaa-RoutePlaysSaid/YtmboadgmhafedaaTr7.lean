/-
  Routes, the program: Add.
-/
import Derived.Test.YtmboadgmhafedaaRp4
set_option linter.unusedVariables false
namespace Go.Proofs.Ytmboadgmhafedaa
open Go.RowKit

def AddK (w : World) (B t : Nat) (L : List R4) (T : Tre) (r : R4) (e : Ending) (w' : World) : Prop :=
  ∃ T', e = .returned (.int .i64 (addL L r).2) ∧ Tab w' B t (addL L r).1 T' ∧ Gs w w' T T'
section
variable {w w' w2 : World} {B t : Nat} {T : Tre} {n : Int}
theorem IsT.ownF (h : IsT w B t T n) {p : List Nat} {g : Nat} {v : Value} {rs : List R4} (hd : T p = some ⟨g, v, rs⟩) : w.ownsRow B 36 4 v rs.length (flat rs) := h.own p _ hd
theorem IsT.new_ne (h : IsT w B t T n) {p : List Nat} {d : Nd} (hd : T p = some d) : d.v.ownBlock ≠ some w.drew.heap.size := fun e => by
  have h1 := (own_lo (h.own p d hd) e).2
  exact Nat.lt_irrefl _ (show w.heap.size < w.heap.size from h1)
theorem IsT.cellG (h : IsT w B t T n) {p : List Nat} {d : Nd} (hd : T p = some d) (k : Below w.heap.size w w') (g : w'.grownBy w2 d.v.ownBlock) : w2.cell? ⟨d.g, 0, none⟩ = some d.v := by
  have h1 := (h.nx k).all hd
  have h2 := h1.grown g (fun e => (h.nx k).row_ne hd hd e.symm)
  rw [h2.cell]
  unfold csN
  split <;> rfl
theorem IsT.froG (h : IsT w B t T n) {p : List Nat} {d : Nd} (hd : T p = some d) (k : Below w.heap.size w w') (g : w'.grownBy w2 d.v.ownBlock) : w2.frozen? ⟨d.g, 0, none⟩ = false := by
  have h1 := (h.nx k).all hd
  have h2 := h1.grown g (fun e => (h.nx k).row_ne hd hd e.symm)
  exact h2.frozen 0
theorem IsT.celln (h : IsT w B t T n) : w.cell? ⟨t, 3, none⟩ = some (.int .i64 n) := by
  obtain ⟨d, h1, h2⟩ := h.root
  exact (h.blk0 d h1).cell 3
theorem IsT.fron (h : IsT w B t T n) : w.frozen? ⟨t, 3, none⟩ = false := by
  obtain ⟨d, h1, h2⟩ := h.root
  exact (h.blk0 d h1).frozen 3
end
theorem one4 (net b : Nat) (z u : Int) : ∀ x ∈ ([.int .u32 net, .int .i64 b, .int .u32 z, .int .i64 u] : List Value), x.oneCell' = true := by
  intro x hx
  simp at hx
  rcases hx with rfl | rfl | rfl | rfl <;> rfl
theorem own_ins {w : World} {B i : Nat} {v : Value} {rs : List R4} {net b : Nat} {z u : Int} (h : w.ownsRow B 36 4 v (rs.length + 1) (insK (flat rs) [.int .u32 net, .int .i64 b, .int .u32 z, .int .i64 u] i)) : OwnL w B v (rs.take i ++ (⟨net, b, z, u⟩ : R4) :: rs.drop i) := by
  have e := insK_flat rs ⟨net, b, z, u⟩ i
  unfold OwnL
  rw [← e]
  have hl : (rs.take i ++ (⟨net, b, z, u⟩ : R4) :: rs.drop i).length = rs.length + 1 := by simp; omega
  rw [hl]
  exact h
set_option maxRecDepth 10000 in
set_option maxHeartbeats 3200000 in
theorem addK (w : World) {B t : Nat} {L : List R4} {T : Tre} (h : Tab w B t L T) (r : R4) (hr : InU r) :
    Calls Try.prog 9 #[.pointer (some ⟨t, 0, none⟩), .agg #[.int .u32 r.x, .int .i64 r.y, .int .u32 r.z, .int .i64 r.u]] w fun e w' => AddK w B t L T r e w' := by
  have hB : Hid (B ≤ w.heap.size) := h.hb
  have X0 := Lib.hid (Blk.new w 36 #[.int .u32 r.x, .int .i64 r.y, .int .u32 r.z, .int .i64 r.u])
  have B0 := Lib.hid (al (rf w) (.cells #[.int .u32 r.x, .int .i64 r.y, .int .u32 r.z, .int .i64 r.u] 36))
  have NF : Hid (¬ Foot T w.heap.size) := fun hf => by have := (h.tr.foot hf).2; omega
  have HT := Lib.hid (h.nx B0.out)
  have HM := Lib.hid (fun W : World => mayC r hr W)
  have HB0 : ∀ {w1}, Below w.heap.size w w1 → Tab w1 B t L T := fun k => h.nx k
  clear h
  by_cases hok : okR r = true
  · have hwf := okR_wf hok hr
    have HU := Lib.hid hr
    clear HB0
    obtain ⟨x, y, z, u⟩ := r
    obtain ⟨net, rfl⟩ := Int.eq_ofNat_of_zero_le (show 0 ≤ x from hwf.x0)
    obtain ⟨b, rfl⟩ := Int.eq_ofNat_of_zero_le (show 0 ≤ y from hwf.y0)
    have hnet : Hid (net < 4294967296) := by have := hwf.x1; simp only at this; show net < 4294967296; omega
    have hb : Hid (b ≤ 32) := by have := hwf.y1; simp only at this; show b ≤ 32; omega
    have HOK := Lib.hid hok
    have HWF := Lib.hid hwf
    clear hok hwf hr
    simp only at X0 B0 HT HM ⊢
    go_enter Try.func9, Try.ntmps9
    go_wp2_with fail
    refine (HM.out _).mono ?_
    rintro e w1 ⟨rfl, b1⟩
    rw [HOK.out]
    have X1 := Lib.hid (X0.out.nx b1)
    have HT1 := Lib.hid (HT.out.nx b1)
    have B1 := Lib.hid (nx B0.out b1)
    clear b1
    have c0 := X1.out.cell 0
    have c1 := X1.out.cell 1
    have c2 := X1.out.cell 2
    have c3 := X1.out.cell 3
    simp only [List.getElem?_toArray, List.getElem?_cons_zero, List.getElem?_cons_succ] at c0 c1 c2 c3
    go_wp2_with fail
    refine (atK w1 HT1.out.tr net b z u hnet.out hb.out).mono ?_
    rintro e w2 ⟨rfl, b2⟩
    have X2 := Lib.hid (X1.out.nx b2)
    have HT2 := Lib.hid (HT1.out.nx b2)
    have B2 := Lib.hid (nx B1.out b2)
    clear b2 c0 c1 c2 c3
    cases hT : T (pth net b) with
    | none =>
      have HKF : Hid (hasK L ⟨net, b, z, u⟩ = false) := by
        show _ = _
        rw [← hit_has HT2.out.ok HWF.out, ← HT2.out.at_]
        rw [rsOf_none (show T (pk ⟨net, b, z, u⟩) = none from hT)]
        rfl
      unfold ndV
      clear hT
      obtain ⟨wa, hwa⟩ : ∃ wa, wa = w2 := ⟨_, rfl⟩
      subst hwa
      have XA := X2
      have HTA := HT2
      have BA := B2
      have cn := HTA.out.tr.celln
      by_cases h64 : 64 ≤ L.length
      · have e64 : decide ((64 : Int) ≤ L.length) = true := by rw [decide_eq_true_eq]; omega
        have HE : Hid (AddK w B t L T ⟨net, b, z, u⟩ (.returned (.int .i64 6)) wa) := by
          refine ⟨T, ?_, ?_, Gs.of_below BA.out⟩
          · unfold addL; rw [if_pos HOK.out, HKF.out, if_neg (by simp), if_pos h64]
          · unfold addL; rw [if_pos HOK.out, HKF.out, if_neg (by simp), if_pos h64]; exact HTA.out
        clear h64
        go_wp2
        go_ret
        exact HE.out
      · have e64 : decide ((64 : Int) ≤ L.length) = false := by rw [decide_eq_false_iff_not]; omega
        have H64 : Hid (¬ 64 ≤ L.length) := h64
        clear h64
        have a0 := XA.out.cell 0
        have a1 := XA.out.cell 1
        have a2 := XA.out.cell 2
        have a3 := XA.out.cell 3
        simp only [List.getElem?_toArray, List.getElem?_cons_zero, List.getElem?_cons_succ] at a0 a1 a2 a3
        go_wp2_with fail
        refine (atM wa HTA.out.tr HTA.out.hb net b z u hnet.out hb.out).mono ?_
        rintro e w3 ⟨T1, d1, rfl, hd1, I1, R1, G1⟩
        obtain ⟨g1, v1, rs1⟩ := d1
        have hrs : rs1 = atP L (pth net b) := by rw [← HTA.out.at_, ← R1, rsOf_some hd1]
        obtain ⟨A1, c1, hv1, hc1⟩ := (I1.own _ _ hd1).form
        simp only at hv1 hc1
        subst hv1
        have X3 := Lib.hid (G1.keep.blk XA.out (fun hf => by have := (HTA.out.tr.foot hf).2; have := X0.out.lt; exact NF.out hf))
        have I3 := Lib.hid I1
        have HD1 := Lib.hid hd1
        have G3 := Lib.hid ((Gs.of_below BA.out (T := T)).trans G1)
        have HR1 := Lib.hid R1
        have HRS := Lib.hid hrs
        have hb3 : Hid (B ≤ w3.heap.size) := Nat.le_trans HTA.out.hb G1.keep.size
        have SR1 : Hid (SortL rs1) := by show SortL rs1; rw [hrs]; exact atP_sort HTA.out.ok _
        have LN1 : Hid (rs1.length ≤ 64) := by show rs1.length ≤ 64; rw [hrs]; exact atP_len HTA.out.ok _
        have y3 : w3.cell? ⟨g1, 0, none⟩ = some (.slice A1 rs1.length c1) := I1.cell0 hd1
        clear hd1 I1 R1 G1 hrs a0 a1 a2 a3 cn
        have a0 := X3.out.cell 0
        have a1 := X3.out.cell 1
        have a2 := X3.out.cell 2
        have a3 := X3.out.cell 3
        simp only [List.getElem?_toArray, List.getElem?_cons_zero, List.getElem?_cons_succ] at a0 a1 a2 a3
        go_wp2_with fail
        refine (nfindC w3 y3 (I3.out.own _ _ HD1.out) SR1.out (Nat.le_trans LN1.out (by decide)) ⟨net, b, z, u⟩).mono ?_
        rintro e w4 ⟨rfl, b4⟩
        have X4 := Lib.hid (X3.out.nx b4)
        have I4 := Lib.hid (I3.out.nx b4)
        have G4 := Lib.hid (G3.out.trans (Gs.of_below b4 (T := T1)))
        have hb4 : Hid (B ≤ w4.heap.size) := Nat.le_trans hb3.out b4.size
        clear b4 a0 a1 a2 a3 y3
        obtain ⟨i, hi⟩ : ∃ i, posL rs1 u = i := ⟨_, rfl⟩
        have HI : Hid (posL rs1 u = i) := hi
        have hi2 : Hid (i ≤ rs1.length) := by show i ≤ rs1.length; rw [← hi]; exact pos_le _ _
        simp only [hi]
        clear hi
        have c0d : w4.drew.cell? ⟨w.heap.size, 0, none⟩ = some (.int .u32 net) := X4.out.cell 0
        have c1d : w4.drew.cell? ⟨w.heap.size, 1, none⟩ = some (.int .i64 b) := X4.out.cell 1
        have c2d : w4.drew.cell? ⟨w.heap.size, 2, none⟩ = some (.int .u32 z) := X4.out.cell 2
        have c3d : w4.drew.cell? ⟨w.heap.size, 3, none⟩ = some (.int .i64 u) := X4.out.cell 3
        have y4d : w4.drew.cell? ⟨g1, 0, none⟩ = some (.slice A1 rs1.length c1) := I4.out.cell0 HD1.out
        have y4a : ∀ o, (w4.alloc o).cell? ⟨g1, 0, none⟩ = some (.slice A1 rs1.length c1) := fun o => (I4.out.nx (al (rf w4) o)).cell0 HD1.out
        go_wp2
        go_region_with (first
            | (go_at_call 21; refine (insC _ B (.slice A1 rs1.length c1) rs1.length i (flat rs1) [.int .u32 net, .int .i64 b, .int .u32 z, .int .i64 u] w4.drew.heap.size ((I4.out.nx (al (rf w4).drew _)).ownF HD1.out) (Blk.new w4.drew _ _) (I4.out.new_ne HD1.out) rfl (one4 net b z u) (flat_one rs1) hi2.out (Nat.le_trans LN1.out (by decide)) (Nat.le_trans hb4.out (al (rf w4).drew _).size)).mono ?_; rintro e w5 ⟨v5, rfl, ow5, gr5, nb5⟩
               obtain ⟨A5, c5, hv5⟩ := own_slice ow5
               subst hv5
               have y5 : w5.cell? ⟨g1, 0, none⟩ = some (.slice A1 rs1.length c1) := I4.out.cellG HD1.out (al (rf w4).drew _) gr5
               have f5 : w5.frozen? ⟨g1, 0, none⟩ = false := I4.out.froG HD1.out (al (rf w4).drew _) gr5)
            | fail)
        all_goals
          have PU := (I4.out.nx (al (rf w4).drew (.cells #[.int .u32 net, .int .i64 b, .int .u32 z, .int .i64 u] 36))).put HD1.out gr5 (rs' := rs1.take i ++ (⟨net, b, z, u⟩ : R4) :: rs1.drop i) (own_ins ow5) nb5
          have I6 := Lib.hid PU.1
          have G6 := Lib.hid ((G4.out.trans (Gs.of_below (al (rf w4).drew (.cells #[.int .u32 net, .int .i64 b, .int .u32 z, .int .i64 u] 36)))).trans PU.2)
          clear y5 f5 c0d c1d c2d c3d y4d y4a ow5 gr5 nb5 PU
          generalize w5.setCell ⟨g1, 0, none⟩ (.slice A5 (rs1.length + 1) c5) = w6 at I6 G6 ⊢
          have cn6 := I6.out.celln
          have f6 := I6.out.fron
          have S7 := Lib.hid (I6.out.setn ((L.length : Int) + 1))
          have HE : Hid (AddK w B t L T ⟨net, b, z, u⟩ (.returned (.int .i64 0)) (w6.setCell ⟨t, 3, none⟩ (.int .i64 ((L.length : Int) + 1)))) := by
            have ea : addL L ⟨net, b, z, u⟩ = (insL L ⟨net, b, z, u⟩, 0) := by unfold addL; rw [if_pos HOK.out, HKF.out, if_neg (by simp), if_neg H64.out]
            have ln : (insL L ⟨net, b, z, u⟩).length = L.length + 1 := by rw [(insL_perm _ _).length_eq, List.length_cons]
            have tk := HTA.out.ok.add (r := ⟨net, b, z, u⟩) HU.out
            rw [ea] at tk
            refine ⟨_, by rw [ea], ?_, G6.out.trans S7.out.2⟩
            rw [ea]
            refine ⟨?_, tk, fun p => ?_, ?_⟩
            · have := S7.out.1
              show IsT _ B t _ ((insL L ⟨net, b, z, u⟩).length : Int)
              rw [ln]
              exact this
            · rw [rsOf_up]
              have hpk : pk ⟨net, b, z, u⟩ = pth net b := rfl
              by_cases hp : p = pth net b
              · rw [if_pos hp, hp, ← hpk, ← pos_ins HTA.out.ok (okR_wf HOK.out HU.out) HKF.out, ← HI.out, HRS.out]
                rfl
              · rw [if_neg hp, HR1.out, HTA.out.at_]
                exact (ins_other (r := ⟨net, b, z, u⟩) hp).symm
            · have h1 := (G6.out.trans S7.out.2).keep.size
              exact Nat.le_trans hB.out h1
          have l64 : (L.length : Int) < 64 := by have := H64.out; omega
          have l00 : (0 : Int) ≤ L.length := by omega
          go_wp2
          go_ret
          exact HE.out
    | some d =>
      have hrs : d.rs = atP L (pth net b) := by rw [← HT2.out.at_, rsOf_some hT]
      have y2 := HT2.out.tr.cell0 hT
      have HD := Lib.hid hT
      have SR : Hid (SortL d.rs) := by show SortL d.rs; rw [hrs]; exact atP_sort HT2.out.ok _
      have LN : Hid (d.rs.length ≤ 64) := by show d.rs.length ≤ 64; rw [hrs]; exact atP_len HT2.out.ok _
      have HH : Hid (hitL d.rs u = hasK L ⟨net, b, z, u⟩) := by
        show _ = _
        rw [hrs]
        exact hit_has HT2.out.ok HWF.out
      unfold ndV
      clear hT hrs
      have c0 := X2.out.cell 0
      have c1 := X2.out.cell 1
      have c2 := X2.out.cell 2
      have c3 := X2.out.cell 3
      simp only [List.getElem?_toArray, List.getElem?_cons_zero, List.getElem?_cons_succ] at c0 c1 c2 c3
      go_wp2_with fail
      refine (nfindC w2 y2 (HT2.out.tr.own _ _ HD.out) SR.out (Nat.le_trans LN.out (by decide)) ⟨net, b, z, u⟩).mono ?_
      rintro e wa ⟨rfl, b3⟩
      have XA := Lib.hid (X2.out.nx b3)
      have HTA := Lib.hid (HT2.out.nx b3)
      have BA := Lib.hid (nx B2.out b3)
      clear b3 c0 c1 c2 c3 y2
      have cn := HTA.out.tr.celln
      simp only [HH.out]
      obtain ⟨i0, hi0⟩ : ∃ i, posL d.rs u = i := ⟨_, rfl⟩
      simp only [hi0]
      clear hi0
      cases hk : hasK L ⟨net, b, z, u⟩ with
      | true =>
        have HE : Hid (AddK w B t L T ⟨net, b, z, u⟩ (.returned (.int .i64 8)) wa) := by
          refine ⟨T, ?_, ?_, Gs.of_below BA.out⟩
          · unfold addL; rw [if_pos HOK.out, if_pos hk]
          · unfold addL; rw [if_pos HOK.out, if_pos hk]; exact HTA.out
        clear hk
        go_wp2
        go_ret
        exact HE.out
      | false =>
        have HKF := Lib.hid hk
        clear hk
        by_cases h64 : 64 ≤ L.length
        · have e64 : decide ((64 : Int) ≤ L.length) = true := by rw [decide_eq_true_eq]; omega
          have HE : Hid (AddK w B t L T ⟨net, b, z, u⟩ (.returned (.int .i64 6)) wa) := by
            refine ⟨T, ?_, ?_, Gs.of_below BA.out⟩
            · unfold addL; rw [if_pos HOK.out, HKF.out, if_neg (by simp), if_pos h64]
            · unfold addL; rw [if_pos HOK.out, HKF.out, if_neg (by simp), if_pos h64]; exact HTA.out
          clear h64
          go_wp2
          go_ret
          exact HE.out
        · have e64 : decide ((64 : Int) ≤ L.length) = false := by rw [decide_eq_false_iff_not]; omega
          have H64 : Hid (¬ 64 ≤ L.length) := h64
          clear h64
          have a0 := XA.out.cell 0
          have a1 := XA.out.cell 1
          have a2 := XA.out.cell 2
          have a3 := XA.out.cell 3
          simp only [List.getElem?_toArray, List.getElem?_cons_zero, List.getElem?_cons_succ] at a0 a1 a2 a3
          go_wp2_with fail
          refine (atM wa HTA.out.tr HTA.out.hb net b z u hnet.out hb.out).mono ?_
          rintro e w3 ⟨T1, d1, rfl, hd1, I1, R1, G1⟩
          obtain ⟨g1, v1, rs1⟩ := d1
          have hrs : rs1 = atP L (pth net b) := by rw [← HTA.out.at_, ← R1, rsOf_some hd1]
          obtain ⟨A1, c1, hv1, hc1⟩ := (I1.own _ _ hd1).form
          simp only at hv1 hc1
          subst hv1
          have X3 := Lib.hid (G1.keep.blk XA.out (fun hf => by have := (HTA.out.tr.foot hf).2; have := X0.out.lt; exact NF.out hf))
          have I3 := Lib.hid I1
          have HD1 := Lib.hid hd1
          have G3 := Lib.hid ((Gs.of_below BA.out (T := T)).trans G1)
          have HR1 := Lib.hid R1
          have HRS := Lib.hid hrs
          have hb3 : Hid (B ≤ w3.heap.size) := Nat.le_trans HTA.out.hb G1.keep.size
          have SR1 : Hid (SortL rs1) := by show SortL rs1; rw [hrs]; exact atP_sort HTA.out.ok _
          have LN1 : Hid (rs1.length ≤ 64) := by show rs1.length ≤ 64; rw [hrs]; exact atP_len HTA.out.ok _
          have y3 : w3.cell? ⟨g1, 0, none⟩ = some (.slice A1 rs1.length c1) := I1.cell0 hd1
          clear hd1 I1 R1 G1 hrs a0 a1 a2 a3 cn
          have a0 := X3.out.cell 0
          have a1 := X3.out.cell 1
          have a2 := X3.out.cell 2
          have a3 := X3.out.cell 3
          simp only [List.getElem?_toArray, List.getElem?_cons_zero, List.getElem?_cons_succ] at a0 a1 a2 a3
          go_wp2_with fail
          refine (nfindC w3 y3 (I3.out.own _ _ HD1.out) SR1.out (Nat.le_trans LN1.out (by decide)) ⟨net, b, z, u⟩).mono ?_
          rintro e w4 ⟨rfl, b4⟩
          have X4 := Lib.hid (X3.out.nx b4)
          have I4 := Lib.hid (I3.out.nx b4)
          have G4 := Lib.hid (G3.out.trans (Gs.of_below b4 (T := T1)))
          have hb4 : Hid (B ≤ w4.heap.size) := Nat.le_trans hb3.out b4.size
          clear b4 a0 a1 a2 a3 y3
          obtain ⟨i, hi⟩ : ∃ i, posL rs1 u = i := ⟨_, rfl⟩
          have HI : Hid (posL rs1 u = i) := hi
          have hi2 : Hid (i ≤ rs1.length) := by show i ≤ rs1.length; rw [← hi]; exact pos_le _ _
          simp only [hi]
          clear hi
          have c0d : w4.drew.cell? ⟨w.heap.size, 0, none⟩ = some (.int .u32 net) := X4.out.cell 0
          have c1d : w4.drew.cell? ⟨w.heap.size, 1, none⟩ = some (.int .i64 b) := X4.out.cell 1
          have c2d : w4.drew.cell? ⟨w.heap.size, 2, none⟩ = some (.int .u32 z) := X4.out.cell 2
          have c3d : w4.drew.cell? ⟨w.heap.size, 3, none⟩ = some (.int .i64 u) := X4.out.cell 3
          have y4d : w4.drew.cell? ⟨g1, 0, none⟩ = some (.slice A1 rs1.length c1) := I4.out.cell0 HD1.out
          have y4a : ∀ o, (w4.alloc o).cell? ⟨g1, 0, none⟩ = some (.slice A1 rs1.length c1) := fun o => (I4.out.nx (al (rf w4) o)).cell0 HD1.out
          go_wp2
          go_region_with (first
              | (go_at_call 21; refine (insC _ B (.slice A1 rs1.length c1) rs1.length i (flat rs1) [.int .u32 net, .int .i64 b, .int .u32 z, .int .i64 u] w4.drew.heap.size ((I4.out.nx (al (rf w4).drew _)).ownF HD1.out) (Blk.new w4.drew _ _) (I4.out.new_ne HD1.out) rfl (one4 net b z u) (flat_one rs1) hi2.out (Nat.le_trans LN1.out (by decide)) (Nat.le_trans hb4.out (al (rf w4).drew _).size)).mono ?_; rintro e w5 ⟨v5, rfl, ow5, gr5, nb5⟩
                 obtain ⟨A5, c5, hv5⟩ := own_slice ow5
                 subst hv5
                 have y5 : w5.cell? ⟨g1, 0, none⟩ = some (.slice A1 rs1.length c1) := I4.out.cellG HD1.out (al (rf w4).drew _) gr5
                 have f5 : w5.frozen? ⟨g1, 0, none⟩ = false := I4.out.froG HD1.out (al (rf w4).drew _) gr5)
              | fail)
          all_goals
            have PU := (I4.out.nx (al (rf w4).drew (.cells #[.int .u32 net, .int .i64 b, .int .u32 z, .int .i64 u] 36))).put HD1.out gr5 (rs' := rs1.take i ++ (⟨net, b, z, u⟩ : R4) :: rs1.drop i) (own_ins ow5) nb5
            have I6 := Lib.hid PU.1
            have G6 := Lib.hid ((G4.out.trans (Gs.of_below (al (rf w4).drew (.cells #[.int .u32 net, .int .i64 b, .int .u32 z, .int .i64 u] 36)))).trans PU.2)
            clear y5 f5 c0d c1d c2d c3d y4d y4a ow5 gr5 nb5 PU
            generalize w5.setCell ⟨g1, 0, none⟩ (.slice A5 (rs1.length + 1) c5) = w6 at I6 G6 ⊢
            have cn6 := I6.out.celln
            have f6 := I6.out.fron
            have S7 := Lib.hid (I6.out.setn ((L.length : Int) + 1))
            have HE : Hid (AddK w B t L T ⟨net, b, z, u⟩ (.returned (.int .i64 0)) (w6.setCell ⟨t, 3, none⟩ (.int .i64 ((L.length : Int) + 1)))) := by
              have ea : addL L ⟨net, b, z, u⟩ = (insL L ⟨net, b, z, u⟩, 0) := by unfold addL; rw [if_pos HOK.out, HKF.out, if_neg (by simp), if_neg H64.out]
              have ln : (insL L ⟨net, b, z, u⟩).length = L.length + 1 := by rw [(insL_perm _ _).length_eq, List.length_cons]
              have tk := HTA.out.ok.add (r := ⟨net, b, z, u⟩) HU.out
              rw [ea] at tk
              refine ⟨_, by rw [ea], ?_, G6.out.trans S7.out.2⟩
              rw [ea]
              refine ⟨?_, tk, fun p => ?_, ?_⟩
              · have := S7.out.1
                show IsT _ B t _ ((insL L ⟨net, b, z, u⟩).length : Int)
                rw [ln]
                exact this
              · rw [rsOf_up]
                have hpk : pk ⟨net, b, z, u⟩ = pth net b := rfl
                by_cases hp : p = pth net b
                · rw [if_pos hp, hp, ← hpk, ← pos_ins HTA.out.ok (okR_wf HOK.out HU.out) HKF.out, ← HI.out, HRS.out]
                  rfl
                · rw [if_neg hp, HR1.out, HTA.out.at_]
                  exact (ins_other (r := ⟨net, b, z, u⟩) hp).symm
              · have h1 := (G6.out.trans S7.out.2).keep.size
                exact Nat.le_trans hB.out h1
            have l64 : (L.length : Int) < 64 := by have := H64.out; omega
            have l00 : (0 : Int) ≤ L.length := by omega
            go_wp2
            go_ret
            exact HE.out
  · have E := Lib.hid hok
    have HE : Hid (∀ w1, Below w.heap.size w w1 → AddK w B t L T r (.returned (.int .i64 1)) w1) := fun w1 k => by
      refine ⟨T, ?_, ?_, Gs.of_below k⟩
      · unfold addL; rw [if_neg hok]
      · unfold addL; rw [if_neg hok]; exact HB0 k
    have hf : Hid (okR r = false) := by show _ = _; simpa using hok
    clear hok
    go_enter Try.func9, Try.ntmps9
    go_wp2_with fail
    refine (HM.out _).mono ?_
    rintro e w1 ⟨rfl, b1⟩
    rw [hf.out]
    have HE2 := Lib.hid (HE.out _ (nx B0.out b1))
    clear b1
    go_wp2
    go_ret
    exact HE2.out
end Go.Proofs.Ytmboadgmhafedaa
