/-
  IP: the reference's Encode.
-/
import Derived.Test.YthjpdaflgphbbaaDoorIpR
set_option linter.unusedVariables false
namespace Go.Proofs.YthjpdaflgphbbaaDoor
open Go.RowKit

set_option maxHeartbeats 3200000 in
set_option maxRecDepth 10000 in
theorem rencC (w : World) (p : Pk) (o d : Value) (h : IsPk w p o d) : Calls Tryd.prog 14 #[.agg (p.cs o d).toArray] w (EncR p w) := by
  have HH := Lib.hid h
  have B0 := Lib.hid (al (rf w) (.cells (p.cs o d).toArray 26))
  have HB := Lib.hid (Blk.new w 26 (p.cs o d).toArray)
  have HW := Lib.hid (mayC _ p o d (h.nx B0.out))
  obtain ⟨⟨A, c, rfl, hb1, hc1⟩, ⟨B, e, rfl, hb2, hc2⟩, _, _, _, hol, hdl⟩ := h
  have HD := Lib.hid hb2
  clear hb1 hb2
  go_enter Tryd.func14, Tryd.ntmps14
  have HB2 := Lib.hid HB.out
  unfold Pk.cs at HB
  go_wp2_with ((with_reducible refine wpList_load_blk rfl 26 1 rfl w.heap.size 0 11 (by kernel_rfl) 26 _ (p.cs (.slice A p.op.length c) (.slice B p.da.length e)) HB2.out (by kernel_rfl) _ Tryd.underlying26 (by kernel_rfl) (by kernel_rfl) ?_))
  refine HW.out.mono ?_
  rintro e1 w1 ⟨rfl, b1⟩
  have B1 := Lib.hid (nx B0.out b1)
  have HB1 := Lib.hid (HB2.out.nx b1)
  clear b1 HW HB HB2 B0
  by_cases hm : mayI p = 0
  · have OK := Lib.hid (okP_of hm)
    have HM := Lib.hid hm
    rw [hm]
    clear hm
    have zl : sizeP p.op.length ≤ 60 := by have := OK.out.ol; unfold sizeP; omega
    have s1 := B1.out.size
    have hgl := HB1.out.lt
    have KS : Hid (∀ w', Below w1.heap.size w1 w' → (w'.cell? ⟨w.heap.size, 0, none⟩ = some (.int .i64 p.sv) ∧ w'.cell? ⟨w.heap.size, 1, none⟩ = some (.int .i64 p.id) ∧ w'.cell? ⟨w.heap.size, 2, none⟩ = some (.bool p.wh) ∧ w'.cell? ⟨w.heap.size, 3, none⟩ = some (.bool p.mo) ∧ w'.cell? ⟨w.heap.size, 4, none⟩ = some (.int .i64 p.off) ∧ w'.cell? ⟨w.heap.size, 5, none⟩ = some (.int .i64 p.lf) ∧ w'.cell? ⟨w.heap.size, 6, none⟩ = some (.int .i64 p.pr) ∧ w'.cell? ⟨w.heap.size, 7, none⟩ = some (.int .u32 p.fr) ∧ w'.cell? ⟨w.heap.size, 8, none⟩ = some (.int .u32 p.to_) ∧ w'.cell? ⟨w.heap.size, 9, none⟩ = some (.slice A p.op.length c) ∧ w'.cell? ⟨w.heap.size, 10, none⟩ = some (.slice B p.da.length e))) := fun w' k =>
      ⟨(HB1.out.nx k).cell 0, (HB1.out.nx k).cell 1, (HB1.out.nx k).cell 2, (HB1.out.nx k).cell 3, (HB1.out.nx k).cell 4, (HB1.out.nx k).cell 5, (HB1.out.nx k).cell 6, (HB1.out.nx k).cell 7, (HB1.out.nx k).cell 8, (HB1.out.nx k).cell 9, (HB1.out.nx k).cell 10⟩
    have HDB := Lib.hid (HD.out.nx B1.out)
    have HDW := Lib.hid (fun w' (k : Below w1.heap.size w1 w') => HDB.out.nx k)
    have HHW := Lib.hid (fun w' (k : Below w1.heap.size w1 w') => rhdrC w' p _ _ p.da.length ((HH.out.nx B1.out).nx k) OK.out rfl)
    unfold Pk.cs at HHW
    clear HD HH
    go_wp2_with fail
    go_region_held3 (fun w' => (w'.cell? ⟨w.heap.size, 0, none⟩ = some (.int .i64 p.sv) ∧ w'.cell? ⟨w.heap.size, 1, none⟩ = some (.int .i64 p.id) ∧ w'.cell? ⟨w.heap.size, 2, none⟩ = some (.bool p.wh) ∧ w'.cell? ⟨w.heap.size, 3, none⟩ = some (.bool p.mo) ∧ w'.cell? ⟨w.heap.size, 4, none⟩ = some (.int .i64 p.off) ∧ w'.cell? ⟨w.heap.size, 5, none⟩ = some (.int .i64 p.lf) ∧ w'.cell? ⟨w.heap.size, 6, none⟩ = some (.int .i64 p.pr) ∧ w'.cell? ⟨w.heap.size, 7, none⟩ = some (.int .u32 p.fr) ∧ w'.cell? ⟨w.heap.size, 8, none⟩ = some (.int .u32 p.to_) ∧ w'.cell? ⟨w.heap.size, 9, none⟩ = some (.slice A p.op.length c) ∧ w'.cell? ⟨w.heap.size, 10, none⟩ = some (.slice B p.da.length e)))
      (first | exact KS.out _ (rf _).drew | exact KS.out _ BA | exact KS.out _ B5 | exact KS.out _ (by assumption) | fail)
      (first
        | (go_at_call 37; refine (HHW.out _ (rf w1).drew).mono ?_; rintro e5 w5 ⟨v5, rfl, r5⟩; obtain ⟨A5, c5, rfl⟩ := own_slice r5.1
           have B5 : Below w1.heap.size w1 w5 := nx (rf w1).drew r5.2
           have own5 := own_base r5.1 (Nat.le_refl w1.heap.size)
           have s5 := B5.size)
        | (refine step_app stB rfl (.tmp 14) (.tmp 16) rfl w1.heap.size _ (hdr p (sumB (hdr p 0))).length (Lib.byteCells (hdr p (sumB (hdr p 0)))) rfl own5 B p.da.length e (Lib.byteCells p.da) rfl (HDW.out _ B5) (one_u8 _) (by rw [hdr_len]; omega) (by rw [hdr_len]; omega) s5 ?_; intro v6 w6 own6 gr6 at6 bel6
           have BA : Below w1.heap.size w1 w6 := B5.trans bel6)
        | fail)
    have OWN6 := Lib.hid (own_base own6 s1)
    have BA6 := Lib.hid (nx B1.out BA)
    clear own6 gr6 at6 bel6 own5 r5 BA
    go_wp2
    refine bodyPost_ret (results_tmp2 rfl _ _ _) rfl ?_
    refine .inl ⟨HM.out, v6, rfl, ?_, BA6.out⟩
    have := OWN6.out
    rw [← byteCells_app, ← List.length_append] at this
    exact this
  · have y1 : (mayI p != 0) = true := by rw [bne_iff_ne]; exact hm
    have HM := Lib.hid hm
    generalize hM : mayI p = M at y1
    have HMM := Lib.hid hM
    clear hm hM
    go_wp2
    refine bodyPost_ret (results_tmp2 rfl _ _ _) rfl ?_
    rw [← HMM.out]
    exact .inr ⟨HM.out, rfl, B1.out⟩
end Go.Proofs.YthjpdaflgphbbaaDoor
