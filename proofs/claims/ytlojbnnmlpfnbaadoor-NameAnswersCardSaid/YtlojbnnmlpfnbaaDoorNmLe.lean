/-
  NameEncodes: for every message the law 'any message is bytes, or refused' returns true.
-/
import Derived.Test.YtlojbnnmlpfnbaaDoorNmHv
set_option linter.unusedVariables false
namespace Go.Proofs.YtlojbnnmlpfnbaaDoor
open Go.RowKit

theorem encM_len {M : Ms} {w : World} (hz : wrongI M = 0) (h : IsM w M) : (encM M).length ≤ 1000000 := by
  have ok := mok_of hz
  have h1 := flat_len (l := M.q) (f := qB) (fun r hr => Nat.le_trans (qB_len (ok.q r hr)) (by omega))
  have h2 := flat_len (l := M.a) (f := aB) (fun r hr => aB_len (ok.a r hr) (h.ar r hr).2.2.1)
  have h3 := ok.ql
  have h4 := ok.al
  have h5 : ((h6 M).flatMap fun v => beB v.toNat 2).length = 12 := by rw [flat2_len]; rfl
  unfold encM
  rw [List.length_append, List.length_append, h5]
  omega
set_option maxRecDepth 20000 in
set_option maxHeartbeats 3200000 in
theorem nameEncodes_walk (M : Ms) (w : World) (h : AnyM w M) (hm : MaxL w) :
    Calls Tryd.prog 5 #[.agg #[.int .i64 M.id, .int .i64 M.fl, .slice M.Q M.q.length M.n, .slice M.A M.a.length M.m]] w fun e w' => e = .returned (.bool true) ∧ Below w.heap.size w w' := by
  have X0 := Lib.hid (Blk.new w 36 #[.int .i64 M.id, .int .i64 M.fl, .slice M.Q M.q.length M.n, .slice M.A M.a.length M.m])
  have B0 := Lib.hid (al (rf w) (.cells #[.int .i64 M.id, .int .i64 M.fl, .slice M.Q M.q.length M.n, .slice M.A M.a.length M.m] 36))
  have H := Lib.hid h
  have HM := Lib.hid hm
  have HW : Hid (0 < w.heap.size) := by
    obtain ⟨m, hx⟩ := hm
    exact block_lt_of_cell hx
  clear h hm
  go_enter Tryd.func5, Tryd.ntmps5
  go_wp2_with fail
  refine (heavyC _ M (H.out.nx B0.out)).mono ?_
  rintro e w1 ⟨b, rfl, b1, hb⟩
  have B1 := Lib.hid (nx B0.out b1)
  have X1 := Lib.hid (X0.out.nx b1)
  cases b with
  | true =>
    clear hb b1
    go_wp2
    go_ret
    exact ⟨rfl, B1.out⟩
  | false =>
    have I1 : Hid (IsM w1 M) := (hb rfl).nx b1
    clear hb b1
    have c0 := X1.out.cell 0
    have c1 := X1.out.cell 1
    have c2 := X1.out.cell 2
    have c3 := X1.out.cell 3
    simp only [List.getElem?_toArray, List.getElem?_cons_zero, List.getElem?_cons_succ] at c0 c1 c2 c3
    go_wp2_with fail
    refine (encNC w1 M I1.out (HM.out.below B1.out HW.out)).mono ?_
    have known2 : ∀ (w2 : World), Below w1.heap.size w1 w2 → Below w.heap.size w w2 := fun w2 k => nx B1.out k
    rintro e w2 (⟨hz, A, c, rfl, own, b2⟩ | ⟨hz, rfl, b2⟩)
    · have I2 := Lib.hid (I1.out.nx b2)
      have B2 := Lib.hid (nx B1.out b2)
      have X2 := Lib.hid (X1.out.nx b2)
      have LE := Lib.hid (encM_len hz I1.out)
      have Y2 := Lib.hid (Bytes.own own)
      have HZ := Lib.hid hz
      clear own b2 hz c0 c1 c2 c3 known2
      have c0 := X2.out.cell 0
      have c1 := X2.out.cell 1
      have c2 := X2.out.cell 2
      have c3 := X2.out.cell 3
      simp only [List.getElem?_toArray, List.getElem?_cons_zero, List.getElem?_cons_succ] at c0 c1 c2 c3
      obtain ⟨l, hl⟩ : ∃ l, encM M = l := ⟨_, rfl⟩
      have HLL := Lib.hid hl
      rw [hl] at LE Y2 ⊢
      clear hl
      go_wp2_with fail
      refine (rencNC w2 M I2.out).mono ?_
      rintro e w3 (⟨_, A3, k3, rfl, own, b3⟩ | ⟨hz, rfl, b3⟩)
      · rw [HLL.out] at own ⊢
        have Y3 := Lib.hid (Bytes.own own)
        have Z2 := Lib.hid (Y2.out.nx b3)
        have B3 := Lib.hid (nx B2.out b3)
        have hll := LE.out
        clear own b3 c0 c1 c2 c3
        go_wp2_with fail
        refine (same_ w3 A A3 l l l.length l.length c k3 Z2.out Y3.out rfl rfl (by omega) (by omega)).mono ?_
        rintro e w4 ⟨rfl, b4⟩
        have B4 := Lib.hid (nx B3.out b4)
        have hs : (l == l) = true := beq_self_eq_true l
        rw [hs]
        clear b4
        go_wp2_with fail
        refine (known w4).mono ?_
        rintro e w5 ⟨rfl, b5⟩
        have B5 := Lib.hid (nx B4.out b5)
        clear b5
        go_wp2
        go_ret
        exact ⟨rfl, B5.out⟩
      · exact absurd HZ.out hz
    · have I2 := Lib.hid (I1.out.nx b2)
      have B2 := Lib.hid (nx B1.out b2)
      have X2 := Lib.hid (X1.out.nx b2)
      have HZ := Lib.hid hz
      clear b2 hz c0 c1 c2 c3 known2
      have c0 := X2.out.cell 0
      have c1 := X2.out.cell 1
      have c2 := X2.out.cell 2
      have c3 := X2.out.cell 3
      simp only [List.getElem?_toArray, List.getElem?_cons_zero, List.getElem?_cons_succ] at c0 c1 c2 c3
      obtain ⟨v, hv⟩ : ∃ v, wrongI M = v := ⟨_, rfl⟩
      have HV := Lib.hid hv
      rw [hv] at HZ ⊢
      clear hv
      go_wp2_with fail
      refine (rencNC w2 M I2.out).mono ?_
      rintro e w3 (⟨hz, A3, k3, rfl, own, b3⟩ | ⟨hz, rfl, b3⟩)
      · exact absurd (HV.out.symm.trans hz) HZ.out
      · rw [HV.out]
        have B3 := Lib.hid (nx B2.out b3)
        have hvv : ((v : Int) == v) = true := beq_self_eq_true v
        clear b3 c0 c1 c2 c3 hz
        go_wp2_with fail
        refine (same_ w3 none none [] [] 0 0 0 0 (Bytes.nil _ _) (Bytes.nil _ _) rfl rfl (by decide) (by decide)).mono ?_
        rintro e w4 ⟨rfl, b4⟩
        have B4 := Lib.hid (nx B3.out b4)
        have hs : (([] : List UInt8) == []) = true := rfl
        rw [hs]
        clear b4
        go_wp2_with fail
        refine (known w4).mono ?_
        rintro e w5 ⟨rfl, b5⟩
        have B5 := Lib.hid (nx B4.out b5)
        clear b5
        go_wp2
        go_ret
        exact ⟨rfl, B5.out⟩
end Go.Proofs.YtlojbnnmlpfnbaaDoor
