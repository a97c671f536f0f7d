/-
  IP: what is wrong with a packet, in the reference.
-/
import Derived.Test.YthjpdaflgphbbaaDoorIpM
set_option linter.unusedVariables false
namespace Go.Proofs.YthjpdaflgphbbaaDoor
open Go.RowKit

set_option maxHeartbeats 3200000 in
theorem mayC (w : World) (p : Pk) (o d : Value) (h : IsPk w p o d) : Calls Tryd.prog 36 #[.agg (p.cs o d).toArray] w fun e w' => e = .returned (.int .i64 (mayI p)) ∧ Below w.heap.size w w' := by
  obtain ⟨M, hM⟩ : ∃ M, M = mayI p := ⟨_, rfl⟩
  have HM := Lib.hid hM
  rw [← hM]; clear hM
  have HB := Lib.hid (Blk.new w 26 (p.cs o d).toArray)
  have HH := Lib.hid h
  obtain ⟨⟨A, c, rfl, hb1, hc1⟩, ⟨B, e, rfl, hb2, hc2⟩, _, _, _, hn, hm⟩ := h
  have B0 := Lib.hid (al (rf w) (.cells (p.cs (.slice A p.op.length c) (.slice B p.da.length e)).toArray 26))
  unfold Pk.cs at HB B0 ⊢
  go_enter Tryd.func36, Tryd.ntmps36
  by_cases a0 : p.sv < 0
  · have HN : Hid (M = 1) := by show _ = _; rw [HM.out, mayI, if_pos (by unfold bad1; omega)]
    go_wp2
    go_ret
    rw [HN.out]
    exact ⟨rfl, B0.out⟩
  · skip
    by_cases a1 : 255 < p.sv
    · have HN : Hid (M = 1) := by show _ = _; rw [HM.out, mayI, if_pos (by unfold bad1; omega)]
      go_wp2
      go_ret
      rw [HN.out]
      exact ⟨rfl, B0.out⟩
    · skip
      by_cases a2 : p.lf < 0
      · have HN : Hid (M = 1) := by show _ = _; rw [HM.out, mayI, if_pos (by unfold bad1; omega)]
        go_wp2
        go_ret
        rw [HN.out]
        exact ⟨rfl, B0.out⟩
      · skip
        by_cases a3 : 255 < p.lf
        · have HN : Hid (M = 1) := by show _ = _; rw [HM.out, mayI, if_pos (by unfold bad1; omega)]
          go_wp2
          go_ret
          rw [HN.out]
          exact ⟨rfl, B0.out⟩
        · skip
          by_cases a4 : p.pr < 0
          · have HN : Hid (M = 1) := by show _ = _; rw [HM.out, mayI, if_pos (by unfold bad1; omega)]
            go_wp2
            go_ret
            rw [HN.out]
            exact ⟨rfl, B0.out⟩
          · skip
            by_cases a5 : 255 < p.pr
            · have HN : Hid (M = 1) := by show _ = _; rw [HM.out, mayI, if_pos (by unfold bad1; omega)]
              go_wp2
              go_ret
              rw [HN.out]
              exact ⟨rfl, B0.out⟩
            · skip
              by_cases a6 : p.id < 0
              · have HN : Hid (M = 1) := by show _ = _; rw [HM.out, mayI, if_pos (by unfold bad1; omega)]
                go_wp2
                go_ret
                rw [HN.out]
                exact ⟨rfl, B0.out⟩
              · skip
                by_cases a7 : 65535 < p.id
                · have HN : Hid (M = 1) := by show _ = _; rw [HM.out, mayI, if_pos (by unfold bad1; omega)]
                  go_wp2
                  go_ret
                  rw [HN.out]
                  exact ⟨rfl, B0.out⟩
                · skip
                  by_cases a8 : p.off < 0
                  · have HN : Hid (M = 1) := by show _ = _; rw [HM.out, mayI, if_pos (by unfold bad1; omega)]
                    go_wp2
                    go_ret
                    rw [HN.out]
                    exact ⟨rfl, B0.out⟩
                  · skip
                    by_cases a9 : 65528 < p.off
                    · have HN : Hid (M = 1) := by show _ = _; rw [HM.out, mayI, if_pos (by unfold bad1; omega)]
                      go_wp2
                      go_ret
                      rw [HN.out]
                      exact ⟨rfl, B0.out⟩
                    · skip
                      by_cases a11 : p.off % 8 = 0
                      · have y1 : (p.off % 8 != 0) = false := by rw [bne_eq_false_iff_eq]; exact a11
                        have NB : Hid (¬ bad1 p) := by show ¬ _; unfold bad1; omega
                        by_cases b2 : 40 < p.op.length
                        · have HN : Hid (M = 3) := by show _ = _; rw [HM.out, mayI, if_neg NB.out, if_pos (.inl b2)]
                          have y2 : (40 : Int) < p.op.length := by omega
                          go_wp2
                          go_ret
                          rw [HN.out]
                          exact ⟨rfl, B0.out⟩
                        · have y2 : ¬ (40 : Int) < p.op.length := by omega
                          have HGC := Lib.hid (optR (w.alloc (.cells (p.cs (.slice A p.op.length c) (.slice B p.da.length e)).toArray 26)) A p.op p.op.length c (hb1.nx B0.out) rfl (by omega))
                          by_cases a3 : gd p.op 0 = false
                          · have HN : Hid (M = 3) := by show _ = _; rw [HM.out, mayI, if_neg NB.out, if_pos (.inr a3)]
                            rw [a3] at HGC
                            unfold Pk.cs at HGC
                            go_wp2_with (go_at_call 53; refine HGC.out.mono ?_; rintro e w' ⟨rfl, rfl⟩)
                            go_ret
                            rw [HN.out]
                            exact ⟨rfl, B0.out⟩
                          · have a4 : gd p.op 0 = true := by cases h : gd p.op 0 <;> simp_all
                            rw [a4] at HGC
                            unfold Pk.cs at HGC
                            have HWC := Lib.hid (headC _ p _ _ (HH.out.nx B0.out))
                            have hsz : sizeP p.op.length ≤ 64 := by unfold sizeP; omega
                            have HIN : Hid (inP p = (decide (sizeP p.op.length + p.da.length ≤ 65535) && decide (p.off + p.da.length ≤ 65535 - (sizeP p.op.length : Int)))) := rfl
                            generalize sizeP p.op.length = z at HWC hsz HIN
                            have HNS : Hid (M = if inP p = false then 5 else 0) := by show _ = _; rw [HM.out, mayI, if_neg NB.out, if_neg (by rw [a4]; simpa using b2)]
                            by_cases x1 : 65535 - (z : Int) < p.da.length
                            · have HN : Hid (M = 5) := by
                                have : inP p = false := by rw [HIN.out]; simp; omega
                                show _ = _; rw [HNS.out, if_pos this]
                              clear HIN HNS
                              go_wp2_with (first
                                | (go_at_call 53; refine HGC.out.mono ?_; rintro e w' ⟨rfl, rfl⟩)
                                | (with_reducible refine wpList_load_blk rfl 26 1 rfl w.heap.size 0 11 (by kernel_rfl) 26 _ (p.cs (.slice A p.op.length c) (.slice B p.da.length e)) HB.out (by kernel_rfl) _ Tryd.underlying26 (by kernel_rfl) (by kernel_rfl) ?_)
                                | (go_at_call 57; refine HWC.out.mono ?_; rintro e w2 ⟨rfl, hb2⟩; have HB2 := Blk.nx HB.out hb2; have c4 := HB2.cell 4; have c9 := HB2.cell 9; have c10 := HB2.cell 10; simp only [List.getElem?_toArray, List.getElem?_cons_succ, List.getElem?_cons_zero] at c4 c9 c10))
                              go_ret
                              rw [HN.out]
                              exact ⟨rfl, nx B0.out hb2⟩
                            · by_cases x2 : 65535 - (z : Int) < p.off + p.da.length
                              · have HN : Hid (M = 5) := by
                                  have : inP p = false := by rw [HIN.out]; simp; omega
                                  show _ = _; rw [HNS.out, if_pos this]
                                clear HIN HNS
                                go_wp2_with (first
                                  | (go_at_call 53; refine HGC.out.mono ?_; rintro e w' ⟨rfl, rfl⟩)
                                  | (with_reducible refine wpList_load_blk rfl 26 1 rfl w.heap.size 0 11 (by kernel_rfl) 26 _ (p.cs (.slice A p.op.length c) (.slice B p.da.length e)) HB.out (by kernel_rfl) _ Tryd.underlying26 (by kernel_rfl) (by kernel_rfl) ?_)
                                  | (go_at_call 57; refine HWC.out.mono ?_; rintro e w2 ⟨rfl, hb2⟩; have HB2 := Blk.nx HB.out hb2; have c4 := HB2.cell 4; have c9 := HB2.cell 9; have c10 := HB2.cell 10; simp only [List.getElem?_toArray, List.getElem?_cons_succ, List.getElem?_cons_zero] at c4 c9 c10))
                                go_ret
                                rw [HN.out]
                                exact ⟨rfl, nx B0.out hb2⟩
                              · have HN : Hid (M = 0) := by
                                  have : inP p = true := by rw [HIN.out]; simp; omega
                                  show _ = _; rw [HNS.out, this]; rfl
                                clear HIN HNS
                                go_wp2_with (first
                                  | (go_at_call 53; refine HGC.out.mono ?_; rintro e w' ⟨rfl, rfl⟩)
                                  | (with_reducible refine wpList_load_blk rfl 26 1 rfl w.heap.size 0 11 (by kernel_rfl) 26 _ (p.cs (.slice A p.op.length c) (.slice B p.da.length e)) HB.out (by kernel_rfl) _ Tryd.underlying26 (by kernel_rfl) (by kernel_rfl) ?_)
                                  | (go_at_call 57; refine HWC.out.mono ?_; rintro e w2 ⟨rfl, hb2⟩; have HB2 := Blk.nx HB.out hb2; have c4 := HB2.cell 4; have c9 := HB2.cell 9; have c10 := HB2.cell 10; simp only [List.getElem?_toArray, List.getElem?_cons_succ, List.getElem?_cons_zero] at c4 c9 c10))
                                go_ret
                                rw [HN.out]
                                exact ⟨rfl, nx B0.out hb2⟩
                      · have y1 : (p.off % 8 != 0) = true := by rw [bne_iff_ne]; exact a11
                        have HN : Hid (M = 1) := by show _ = _; rw [HM.out, mayI, if_pos (by unfold bad1; omega)]
                        go_wp2
                        go_ret
                        rw [HN.out]
                        exact ⟨rfl, B0.out⟩
end Go.Proofs.YthjpdaflgphbbaaDoor
