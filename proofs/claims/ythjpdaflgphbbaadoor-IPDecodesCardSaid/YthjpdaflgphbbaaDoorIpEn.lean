/-
  IP: the program's Encode.
-/
import Derived.Test.YthjpdaflgphbbaaDoorIpH
set_option linter.unusedVariables false
namespace Go.Proofs.YthjpdaflgphbbaaDoor
open Go.RowKit

def EncR (p : Pk) (w : World) (e : Ending) (w' : World) : Prop :=
  (mayI p = 0 ∧ ∃ v, e = .returned (.tuple #[v, .int .i64 0]) ∧ w'.ownsRow w.heap.size 5 1 v (encP p).length (Lib.byteCells (encP p)) ∧ Below w.heap.size w w') ∨
  (mayI p ≠ 0 ∧ e = .returned (.tuple #[.slice none 0 0, .int .i64 (mayI p)]) ∧ Below w.heap.size w w')
theorem encP_len (p : Pk) : (encP p).length = sizeP p.op.length + p.da.length := by simp [encP, hdr_len]
theorem IsRow.more {w w1 w2 : World} {l : List UInt8} {v : Value} (h : IsRow w1 w2 l v) (b : Below w.heap.size w w1) : w2.ownsRow w.heap.size 5 1 v l.length (Lib.byteCells l) ∧ Below w.heap.size w w2 :=
  ⟨own_base h.1 b.size, nx b h.2⟩
set_option maxHeartbeats 3200000 in
set_option maxRecDepth 10000 in
theorem encC (w : World) (p : Pk) (o d : Value) (h : IsPk w p o d) : Calls Tryd.prog 13 #[.agg (p.cs o d).toArray] w (EncR p w) := by
  have HH := Lib.hid h
  have B0 := Lib.hid (al (rf w) (.cells (p.cs o d).toArray 26))
  have HB := Lib.hid (Blk.new w 26 (p.cs o d).toArray)
  have HW := Lib.hid (wrongC _ p o d (h.nx B0.out))
  obtain ⟨⟨A, c, rfl, hb1, hc1⟩, ⟨B, e, rfl, hb2, hc2⟩, _, _, _, hol, hdl⟩ := h
  have HD := Lib.hid hb2
  clear hb1 hb2
  go_enter Tryd.func13, Tryd.ntmps13
  have HB2 := Lib.hid HB.out
  unfold Pk.cs at HB
  go_wp2_with ((with_reducible refine wpList_load_blk rfl 26 1 rfl w.heap.size 0 11 (by kernel_rfl) 26 _ (p.cs (.slice A p.op.length c) (.slice B p.da.length e)) HB2.out (by kernel_rfl) _ Tryd.underlying26 (by kernel_rfl) (by kernel_rfl) ?_))
  refine HW.out.mono ?_
  rintro e1 w1 ⟨rfl, b1⟩
  have B1 := Lib.hid (nx B0.out b1)
  have HB1 := Lib.hid (HB2.out.nx b1)
  clear b1 HW HB HB2 B0
  by_cases hm : mayI p = 0
  · have OK := Lib.hid (okP_of hm)
    have HM := Lib.hid hm
    rw [hm]
    clear hm
    have zl : sizeP p.op.length ≤ 60 := by have := OK.out.ol; unfold sizeP; omega
    have c9 : w1.cell? ⟨w.heap.size, 9, none⟩ = some (.slice A p.op.length c) := HB1.out.cell 9
    have HS := Lib.hid (sizeC w1 A p.op.length c hol)
    have HN2 := Lib.hid (Blk.new w1 3 #[.int .i64 (sizeP p.op.length)])
    have HP2 := Lib.hid (HB1.out.alloc (.cells #[.int .i64 (sizeP p.op.length)] 3))
    have B2 := Lib.hid (al B1.out (.cells #[.int .i64 (sizeP p.op.length)] 3))
    have B12 := Lib.hid (al (rf w1) (.cells #[.int .i64 (sizeP p.op.length)] 3))
    go_wp2_with (go_at_call 28; refine HS.out.mono ?_; rintro e2 w1 ⟨rfl, rfl⟩)
    generalize hw2 : w1.alloc (.cells #[.int .i64 (sizeP p.op.length)] 3) = w2 at HN2 HP2 B2 B12
    generalize hgn : w1.heap.size = gn at HN2
    have tok1 : True := trivial
    have hgp : w.heap.size < w2.heap.size := HP2.out.lt
    have KS : Hid (∀ w', Below w2.heap.size w2 w' → w'.cell? ⟨w.heap.size, 10, none⟩ = some (.slice B p.da.length e)) := fun w' k => (HP2.out.nx k).cell 10
    have HG := Lib.hid hgn
    clear hgn hw2 c9 HS HB1
    have s2 := B2.out.size
    have s12 := B12.out.size
    have hdlB := HD.out.nx B2.out
    have HDB := Lib.hid hdlB; clear hdlB
    go_region_held3 (fun w' => w'.cell? ⟨w.heap.size, 10, none⟩ = some (.slice B p.da.length e))
      (first | exact KS.out _ (rf _).drew | exact KS.out _ (by assumption) | exact (KS.out _ BA) | fail)
      (first
        | (go_at_call 29; have _t := tok1; refine (hdrC _ p _ _ 0 gn w.heap.size (HH.out.nx B2.out.drew) OK.out (by omega) HN2.out.drew HP2.out.drew).mono ?_; rintro e3 w3 ⟨v3, rfl, r3⟩; obtain ⟨A3, c3, rfl⟩ := own_slice r3.1; clear tok1 _t
           have B3 : Below w2.heap.size w2 w3 := (rf w2).drew.trans r3.2
           have Y3 : Bytes w3 A3 (hdr p 0) := r3.bytes)
        | (go_at_call 26; refine (sumC A3 c3 (hdr p 0) _ w3 Y3 rfl (by rw [hdr_len]; omega)).mono ?_; rintro e4 w4 ⟨rfl, rfl⟩)
        | (go_at_call 29; refine (hdrC _ p _ _ (sumB (hdr p 0)) gn w.heap.size (HH.out.nx (nx B2.out B3)) OK.out (by unfold sumB; omega) (HN2.out.nx B3) (HP2.out.nx B3)).mono ?_; rintro e5 w5 ⟨v5, rfl, r5⟩; obtain ⟨A5, c5, rfl⟩ := own_slice r5.1
           have B5 : Below w2.heap.size w2 w5 := nx B3 r5.2
           have own5 := own_base r5.1 B3.size
           have s5 := B5.size)
        | (refine step_app stB rfl (.tmp 20) (.tmp 22) rfl w2.heap.size _ (hdr p (sumB (hdr p 0))).length (Lib.byteCells (hdr p (sumB (hdr p 0)))) rfl own5 B p.da.length e (Lib.byteCells p.da) rfl (HDB.out.nx B5) (one_u8 _) (by rw [hdr_len]; omega) (by rw [hdr_len]; omega) s5 ?_; intro v6 w6 own6 gr6 at6 bel6
           have BA : Below w2.heap.size w2 w6 := B5.trans bel6)
        | fail)
    have OWN6 := Lib.hid (own_base own6 s2)
    have BA6 := Lib.hid (nx B2.out BA)
    clear own6 gr6 at6 bel6 own5 r5 r3 Y3 BA
    go_wp2
    refine bodyPost_ret (results_tmp2 rfl _ _ _) rfl ?_
    refine .inl ⟨HM.out, v6, rfl, ?_, BA6.out⟩
    have := OWN6.out
    rw [← byteCells_app, ← List.length_append] at this
    exact this
  · have y1 : (mayI p != 0) = true := by rw [bne_iff_ne]; exact hm
    have HM := Lib.hid hm
    generalize hM : mayI p = M at y1
    have HMM := Lib.hid hM
    clear hm hM
    go_wp2
    refine bodyPost_ret (results_tmp2 rfl _ _ _) rfl ?_
    rw [← HMM.out]
    exact .inr ⟨HM.out, rfl, B1.out⟩
end Go.Proofs.YthjpdaflgphbbaaDoor
