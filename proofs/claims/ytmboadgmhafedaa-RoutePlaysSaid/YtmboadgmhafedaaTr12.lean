/-
  Routes, the program: Remove.
-/
import Derived.Test.YtmboadgmhafedaaTr11
import Derived.Test.YtmboadgmhafedaaTr10
set_option linter.unusedVariables false
namespace Go.Proofs.Ytmboadgmhafedaa
open Go.RowKit

def RemK (w : World) (B t : Nat) (L : List R4) (T : Tre) (r : R4) (e : Ending) (w' : World) : Prop :=
  ∃ T', e = .returned (.int .i64 (remL L r).2) ∧ Tab w' B t (remL L r).1 T' ∧ Gs w w' T T'
theorem rem_no {w w' : World} {B t : Nat} {L : List R4} {T : Tre} {r : R4} (h : Tab w B t L T) (hk : hasK L r = false) (k : Below w.heap.size w w') : RemK w B t L T r (.returned (.int .i64 7)) w' := by
  refine ⟨T, ?_, ?_, Gs.of_below k⟩
  · unfold remL; rw [hk]; rfl
  · unfold remL; rw [hk]; exact h.nx k
theorem has_ok {L : List R4} (h : TabOK L) {r : R4} (hr : okR r = false) : hasK L r = false := by
  cases hb : hasK L r with
  | false => rfl
  | true =>
    obtain ⟨x, hx, h1, h2, h3⟩ := (hasK_iff L r).1 hb
    have := (h.ok x hx).1
    unfold okR at this hr
    rw [h1, h2, h3] at this
    rw [this] at hr
    cases hr
theorem own_del {w : World} {B i q : Nat} {v : Value} {rs : List R4} (hq : rs.length = q + 1) (hi : i ≤ q) (h : w.ownsRow B 36 4 v q (delK (flat rs) i)) : OwnL w B v (rs.take i ++ rs.drop (i + 1)) := by
  have hl : (rs.take i ++ rs.drop (i + 1)).length = q := by simp; omega
  unfold OwnL
  rw [hl, ← delK_flat]
  exact h
set_option maxRecDepth 10000 in
set_option maxHeartbeats 3200000 in
theorem remK (w : World) {B t : Nat} {L : List R4} {T : Tre} (h : Tab w B t L T) (r : R4) (hr : InU r) :
    Calls Try.prog 15 #[.pointer (some ⟨t, 0, none⟩), .agg #[.int .u32 r.x, .int .i64 r.y, .int .u32 r.z, .int .i64 r.u]] w fun e w' => RemK w B t L T r e w' := by
  have X0 := Lib.hid (Blk.new w 36 #[.int .u32 r.x, .int .i64 r.y, .int .u32 r.z, .int .i64 r.u])
  have B0 := Lib.hid (al (rf w) (.cells #[.int .u32 r.x, .int .i64 r.y, .int .u32 r.z, .int .i64 r.u] 36))
  have HT := Lib.hid (h.nx B0.out)
  have HM := Lib.hid (fun W : World => mayC r hr W)
  have H0 := Lib.hid h
  clear h
  by_cases hok : okR r = true
  · have hwf := okR_wf hok hr
    obtain ⟨x, y, z, u⟩ := r
    obtain ⟨net, rfl⟩ := Int.eq_ofNat_of_zero_le (show 0 ≤ x from hwf.x0)
    obtain ⟨b, rfl⟩ := Int.eq_ofNat_of_zero_le (show 0 ≤ y from hwf.y0)
    have hnet : Hid (net < 4294967296) := by have := hwf.x1; simp only at this; show net < 4294967296; omega
    have hb : Hid (b ≤ 32) := by have := hwf.y1; simp only at this; show b ≤ 32; omega
    have HOK := Lib.hid hok
    have HWF := Lib.hid hwf
    have HHK := Lib.hid (hit_has H0.out.ok hwf)
    clear hok hwf hr
    simp only at X0 B0 HT HM H0 ⊢
    go_enter Try.func15, Try.ntmps15
    go_wp2_with fail
    refine (HM.out _).mono ?_
    rintro e w1 ⟨rfl, b1⟩
    rw [HOK.out]
    have X1 := Lib.hid (X0.out.nx b1)
    have HT1 := Lib.hid (HT.out.nx b1)
    have B1 := Lib.hid (nx B0.out b1)
    clear b1
    have c0 := X1.out.cell 0
    have c1 := X1.out.cell 1
    have c2 := X1.out.cell 2
    have c3 := X1.out.cell 3
    simp only [List.getElem?_toArray, List.getElem?_cons_zero, List.getElem?_cons_succ] at c0 c1 c2 c3
    go_wp2_with fail
    refine (atK w1 HT1.out.tr net b z u hnet.out hb.out).mono ?_
    rintro e w2 ⟨rfl, b2⟩
    have X2 := Lib.hid (X1.out.nx b2)
    have HT2 := Lib.hid (HT1.out.nx b2)
    have B2 := Lib.hid (nx B1.out b2)
    clear b2 c0 c1 c2 c3
    cases hT : T (pth net b) with
    | none =>
      have HE : Hid (RemK w B t L T ⟨net, b, z, u⟩ (.returned (.int .i64 7)) w2) := by
        refine rem_no H0.out ?_ B2.out
        rw [← HHK.out, ← H0.out.at_, rsOf_none (show T (pk ⟨net, b, z, u⟩) = none from hT)]
        rfl
      unfold ndV
      clear hT
      go_wp2
      go_ret
      exact HE.out
    | some d =>
      obtain ⟨g, v, rs⟩ := d
      have hrs : rs = atP L (pth net b) := by rw [← HT2.out.at_, rsOf_some hT]
      have y2 := HT2.out.tr.cell0 hT
      have HD := Lib.hid hT
      have SR : Hid (SortL rs) := by show SortL rs; rw [hrs]; exact atP_sort HT2.out.ok _
      have LN : Hid (rs.length ≤ 64) := by show rs.length ≤ 64; rw [hrs]; exact atP_len HT2.out.ok _
      have HRS := Lib.hid hrs
      have HH : Hid (hitL rs u = hasK L ⟨net, b, z, u⟩) := by
        show _ = _
        rw [hrs]
        exact HHK.out
      unfold ndV
      simp only at y2
      clear hT hrs
      have c0 := X2.out.cell 0
      have c1 := X2.out.cell 1
      have c2 := X2.out.cell 2
      have c3 := X2.out.cell 3
      simp only [List.getElem?_toArray, List.getElem?_cons_zero, List.getElem?_cons_succ] at c0 c1 c2 c3
      go_wp2_with fail
      refine (nfindC w2 y2 (HT2.out.tr.own _ _ HD.out) SR.out (Nat.le_trans LN.out (by decide)) ⟨net, b, z, u⟩).mono ?_
      rintro e w3 ⟨rfl, b3⟩
      have HT3 := Lib.hid (HT2.out.nx b3)
      have B3 := Lib.hid (nx B2.out b3)
      clear b3 c0 c1 c2 c3 y2
      simp only [HH.out]
      obtain ⟨i, hi⟩ : ∃ i, posL rs u = i := ⟨_, rfl⟩
      have HI : Hid (posL rs u = i) := hi
      simp only [hi]
      clear hi
      cases hk : hasK L ⟨net, b, z, u⟩ with
      | false =>
        have HE : Hid (RemK w B t L T ⟨net, b, z, u⟩ (.returned (.int .i64 7)) w3) := rem_no H0.out hk B3.out
        clear hk
        go_wp2
        go_ret
        exact HE.out
      | true =>
        have HK := Lib.hid hk
        obtain ⟨xh, hxh, hkh⟩ := pos_hit H0.out.ok HWF.out hk
        have hip : i < rs.length := by
          have h1 := (List.getElem?_eq_some_iff.1 hxh).1
          have h2 := HI.out
          have h3 := HRS.out
          have h4 : pk ⟨net, b, z, u⟩ = pth net b := rfl
          rw [h4, ← h3] at h1
          simp only at h1
          omega
        obtain ⟨q, hq⟩ : ∃ q, rs.length = q + 1 := ⟨rs.length - 1, by omega⟩
        obtain ⟨A1, c1, hv, hc1⟩ := (HT3.out.tr.own _ _ HD.out).form
        simp only at hv hc1
        subst hv
        have y3 : w3.cell? ⟨g, 0, none⟩ = some (.slice A1 rs.length c1) := HT3.out.tr.cell0 HD.out
        have HQ := Lib.hid hq
        have ow := HT3.out.tr.ownF HD.out
        rw [hq] at y3 ow
        have HOW := Lib.hid ow
        have hiq : i ≤ q := by omega
        have hq64 : q ≤ 64 := by have := LN.out; omega
        have i0 : (0 : Int) ≤ i := by omega
        have i1 : (i : Int) ≤ 64 := by omega
        have DC := Lib.hid (delC w3 B (.slice A1 (q + 1) c1) q i (flat rs) ow (flat_one rs) hiq (Nat.le_trans hq64 (by decide)))
        have HIQ := Lib.hid hiq
        have HHD : Hid (T (pth net b) = some ⟨g, .slice A1 (q + 1) c1, rs⟩) := by have h := HD.out; rw [hq] at h; exact h
        have hlen : Hid ((L.filter (fun x => !keyB x ⟨net, b, z, u⟩)).length + 1 = L.length) := by
          obtain ⟨x1, hx1, hkx⟩ := (hasK_iff L _).1 hk
          obtain ⟨j, hj⟩ := List.getElem?_of_mem hx1
          have hjl := (List.getElem?_eq_some_iff.1 hj).1
          show _ + 1 = _
          rw [← rm_eq H0.out.ok.ord hj hkx, List.length_append, List.length_take, List.length_drop]
          omega
        have l00 : (1 : Int) ≤ L.length := by have := hlen.out; omega
        have l64 : (L.length : Int) ≤ 64 := by have := H0.out.ok.len; omega
        clear hk hxh hkh hip hq ow hiq
        go_wp2_with (first
          | (go_at_call 30; refine DC.out.mono ?_; rintro e w5 ⟨v5, rfl, ow5, gr5, nb5⟩
             obtain ⟨A5, c5, hv5⟩ := own_slice ow5
             subst hv5
             have y5 : w5.cell? ⟨g, 0, none⟩ = some (.slice A1 (q + 1) c1) := HT3.out.tr.cellG HHD.out (rf w3) gr5
             have f5 : w5.frozen? ⟨g, 0, none⟩ = false := HT3.out.tr.froG HHD.out (rf w3) gr5
             have PU := HT3.out.tr.put HHD.out gr5 (rs' := rs.take i ++ rs.drop (i + 1)) (own_del HQ.out HIQ.out ow5) (.inl nb5)
             have I6 := Lib.hid PU.1
             have G6 := Lib.hid ((Gs.of_below B3.out).trans PU.2)
             have cn6 := PU.1.celln
             have f6 := PU.1.fron)
          | fail)
        have S7 := I6.out.setn ((L.length : Int) - 1)
        obtain ⟨dr, hd1, hd2⟩ := S7.1.root
        have PK := pruneK 33 [] rfl _ _ dr S7.1 hd1
        rw [hd2] at PK
        have HPK := Lib.hid PK
        have G7 := Lib.hid (G6.out.trans S7.2)
        clear PK S7 hd1 hd2 cn6 f6 PU ow5 gr5 nb5 y5 f5 y3
        refine HPK.out.mono ?_
        rintro e w8 ⟨T2, bb, rfl, pr, _, _⟩
        have HE : Hid (RemK w B t L T ⟨net, b, z, u⟩ (.returned (.int .i64 0)) w8) := by
          have er : remL L ⟨net, b, z, u⟩ = (L.filter (fun x => !keyB x ⟨net, b, z, u⟩), 0) := by unfold remL; rw [if_pos HK.out]
          have tk := H0.out.ok.rem ⟨net, b, z, u⟩
          rw [er] at tk
          refine ⟨T2, by rw [er], ?_, G7.out.trans pr.gs⟩
          rw [er]
          refine ⟨?_, tk, fun p => ?_, ?_⟩
          · have h1 := pr.tr
            have h2 : ((L.filter (fun x => !keyB x ⟨net, b, z, u⟩)).length : Int) = (L.length : Int) - 1 := by have := hlen.out; omega
            show IsT w8 B t T2 ((L.filter (fun x => !keyB x ⟨net, b, z, u⟩)).length : Int)
            rw [h2]
            exact h1
          · rw [pr.rs, rsOf_up]
            have hpk : pk ⟨net, b, z, u⟩ = pth net b := rfl
            by_cases hp : p = pth net b
            · rw [if_pos hp, hp, ← hpk, ← pos_del H0.out.ok HWF.out HK.out, hpk, ← HRS.out]
              simp only [HI.out]
            · rw [if_neg hp, H0.out.at_]
              exact (del_other (r := ⟨net, b, z, u⟩) hp).symm
          · exact Nat.le_trans H0.out.hb (G7.out.trans pr.gs).keep.size
        clear pr
        go_wp2
        go_ret
        exact HE.out
  · have hf : Hid (okR r = false) := by show _ = _; simpa using hok
    have HE : Hid (∀ w1, Below w.heap.size w w1 → RemK w B t L T r (.returned (.int .i64 7)) w1) := fun w1 k => rem_no H0.out (has_ok H0.out.ok hf.out) k
    clear hok
    go_enter Try.func15, Try.ntmps15
    go_wp2_with fail
    refine (HM.out _).mono ?_
    rintro e w1 ⟨rfl, b1⟩
    rw [hf.out]
    have HE2 := Lib.hid (HE.out _ (nx B0.out b1))
    clear b1
    go_wp2
    go_ret
    exact HE2.out
end Go.Proofs.Ytmboadgmhafedaa
