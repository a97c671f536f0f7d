/-
  Names: what stands in an answer's Data (filled); Decode's closure that reads a row: of an answer.
-/
import Derived.Test.YtpfkmmmlocmakaaDoorNmDg
import Derived.Test.YtpfkmmmlocmakaaDoorNmPk
set_option linter.unusedVariables false
namespace Go.Proofs.YtpfkmmmlocmakaaDoor
open Go.RowKit

-- a record whose Data stands behind: what filled leaves
def FillP (w : World) (g : Nat) (r : Rc) (A0 : Option Addr) (e : Ending) (w' : World) : Prop :=
  ∃ A' c', e = .returned (.int .i64 0) ∧ Blk w' g 48 #[.string r.nm, .int .i64 r.t, .int .i64 r.c, .int .i64 r.u, .slice A' r.da.length c'] ∧ Bytes w' A' r.da ∧ r.da.length ≤ c' ∧ (∀ ad, A' = some ad → w.heap.size ≤ ad.block ∨ A0 = some ad) ∧ w.grownBy w' (some g)
set_option maxRecDepth 20000 in
set_option maxHeartbeats 1600000 in
theorem fillC (w : World) (g ga oa c q : Nat) (l P S : List UInt8) (r : Rc) (hr : AOk r) (h1 : r.t = 1 → r.da.length = 4) (hd : r.da.length ≤ 3000) (hl : l = P ++ dtB r ++ S) (hq : q = P.length) (hb : Bytes w (some ⟨ga, oa, none⟩) l) (hll : l.length ≤ 1000000) (hlc : l.length ≤ c)
    (A0 : Option Addr) (c0 : Nat) (hz : Blk w g 48 #[.string r.nm, .int .i64 r.t, .int .i64 r.c, .int .i64 r.u, .slice A0 (dtB r).length c0]) (hA : Bytes w A0 (dtB r)) (hc0 : (dtB r).length ≤ c0) (hne : ∀ ad, A0 = some ad → ad.block ≠ g) :
    Calls Tryd.prog 33 #[.slice (some ⟨ga, oa, none⟩) l.length c, .int .i64 q, .int .i64 (dtB r).length, .pointer (some ⟨g, 0, none⟩)] w (FillP w g r A0) := by
  have z1 : w.cell? ⟨g, 1, none⟩ = some (.int .i64 r.t) := hz.cell 1
  have hql : q ≤ l.length := by rw [hq, hl]; simp only [List.length_append]; omega
  by_cases t1 : r.t = 1
  · have e1 : ((r.t : Int) == 1) = true := by rw [beq_iff_eq]; exact t1
    have hdt : dtB r = r.da := by unfold dtB; rw [if_neg (by omega)]
    have e4 : (((dtB r).length : Int) != 4) = false := by rw [bne_eq_false_iff_eq, hdt]; have := h1 t1; omega
    have HF : Hid (FillP w g r A0 (.returned (.int .i64 0)) w) := ⟨A0, c0, rfl, by rw [← hdt]; exact hz, by rw [← hdt]; exact hA, by rw [← hdt]; exact hc0, fun ad e => .inr e, World.grownBy.refl _ _⟩
    clear hz hA hb hl hdt t1 h1 hq
    go_enter Tryd.func33, Tryd.ntmps33
    go_wp2
    go_ret
    exact HF.out
  · have e1 : ((r.t : Int) == 1) = false := by rw [beq_eq_false_iff_ne]; exact t1
    by_cases t5 : r.t = 5
    · have e5 : ((r.t : Int) == 5) = true := by rw [beq_iff_eq]; exact t5
      have hdt : dtB r = pk (lbs r.da) := by unfold dtB; rw [if_pos t5]
      have hN := hr.da t5
      have hun : unp l q q (-1) [] = (lbs r.da, (((P ++ dtB r).length : Nat) : Int), 0) := by
        have := unp_at hN P S P.length
        rw [← hdt] at this
        rw [hl, hq]; exact this
      obtain ⟨x, hx⟩ : ∃ x, (⟨(jn (lbs r.da)).toArray⟩ : ByteArray) = x := ⟨_, rfl⟩
      have hxl : x.data.toList = r.da := by rw [← hx]; simpa using (isN_goodL hN).2.2
      have hxs : x.size = r.da.length := by rw [← hxl]; exact (Array.length_toList).symm
      have hbq : (((P ++ dtB r).length : Nat) : Int) = (q : Int) + (dtB r).length := by rw [List.length_append, hq]; omega
      rw [hbq] at hun
      have e6 : (((q : Int) + ((dtB r).length : Nat)) != (q : Int) + ((dtB r).length : Nat)) = false := by simp
      have hdl : (dtB r).length ≤ 1000000 := by rw [hl] at hll; simp only [List.length_append] at hll; omega
      have HU := Lib.hid hun
      have HX := Lib.hid hx
      have HXL := Lib.hid hxl
      have HXS := Lib.hid hxs
      have HZ := Lib.hid hz
      have HBY := Lib.hid hb
      clear hun hx hxl hxs hbq hdt hz hA hb hl hc0 hne hN h1 t1 t5 hq
      go_enter Tryd.func33, Tryd.ntmps33
      go_wp2_with fail
      refine (unpC ga oa l c q _ HBY.out hll hlc (by omega) _ HU).mono ?_
      rintro e w1 ⟨rfl, b1⟩
      have Z1 := Lib.hid (HZ.out.nx b1)
      rw [HX.out]
      dsimp only
      have hconv := run_bytes_of_string (P := Tryd.prog) w1 9 34 5 x Tryd.underlying9 Tryd.underlying34 Tryd.underlying5
      have hge := grownCap_ge w1 x.size 0 5
      generalize grownCap w1 x.size 0 5 = cp at hconv hge
      have B2 : Hid (Below w1.heap.size w1 (w1.alloc (.cells (bytesRow x cp) 5 ((bytesRow x cp).size, (bytesRow x cp).size + 1))).drew) := (al (rf w1) _).drew
      have Y2 : Hid (Bytes (w1.alloc (.cells (bytesRow x cp) 5 ((bytesRow x cp).size, (bytesRow x cp).size + 1))).drew (some ⟨w1.heap.size, 0, none⟩) r.da) := by
        have := conv_bytes w1 x cp ((bytesRow x cp).size, (bytesRow x cp).size + 1)
        rw [HXL.out] at this
        exact this
      have Z2 := Lib.hid (Z1.out.nx B2.out)
      have hg1 := Z1.out.lt
      have s4 := Z2.out.cell 4
      have s4f := Z2.out.frozen 4
      simp only [List.getElem?_toArray, List.getElem?_cons_zero, List.getElem?_cons_succ] at s4
      have G1 := Lib.hid (only_of (b := g) b1)
      have HB1 := Lib.hid b1
      clear b1
      go_wp2
      have W3 : Hid (Below (w1.setCell ⟨g, 4, none⟩ (.slice (some ⟨w1.heap.size, 0, none⟩) x.size cp)).heap.size (w1.setCell ⟨g, 4, none⟩ (.slice (some ⟨w1.heap.size, 0, none⟩) x.size cp)) ((w1.setCell ⟨g, 4, none⟩ (.slice (some ⟨w1.heap.size, 0, none⟩) x.size cp)).alloc (.cells (bytesRow x cp) 5 ((bytesRow x cp).size, (bytesRow x cp).size + 1))).drew) := (al (rf _) _).drew
      have Z3 : Hid (Blk (w1.setCell ⟨g, 4, none⟩ (.slice (some ⟨w1.heap.size, 0, none⟩) x.size cp)) g 48 #[.string r.nm, .int .i64 r.t, .int .i64 r.c, .int .i64 r.u, (.slice (some ⟨w1.heap.size, 0, none⟩) x.size cp)]) := Z1.out.set_ 4 (.slice (some ⟨w1.heap.size, 0, none⟩) x.size cp)
      have Y3 : Hid (Bytes ((w1.setCell ⟨g, 4, none⟩ (.slice (some ⟨w1.heap.size, 0, none⟩) x.size cp)).alloc (.cells (bytesRow x cp) 5 ((bytesRow x cp).size, (bytesRow x cp).size + 1))).drew (some ⟨w1.heap.size, 0, none⟩) r.da) := by
        have h3 := conv_bytes (w1.setCell ⟨g, 4, none⟩ (.slice (some ⟨w1.heap.size, 0, none⟩) x.size cp)) x cp ((bytesRow x cp).size, (bytesRow x cp).size + 1)
        rw [HXL.out, show (w1.setCell ⟨g, 4, none⟩ (.slice (some ⟨w1.heap.size, 0, none⟩) x.size cp)).heap.size = w1.heap.size by simp] at h3
        exact h3
      have G3 : Hid (w.grownBy ((w1.setCell ⟨g, 4, none⟩ (.slice (some ⟨w1.heap.size, 0, none⟩) x.size cp)).alloc (.cells (bytesRow x cp) 5 ((bytesRow x cp).size, (bytesRow x cp).size + 1))).drew (some g)) := only_nx (only_setCell (p := ⟨g, 4, none⟩) G1.out (.inl rfl) (.slice (some ⟨w1.heap.size, 0, none⟩) x.size cp)) W3.out
      go_ret
      refine ⟨some ⟨w1.heap.size, 0, none⟩, cp, rfl, ?_, Y3.out, by rw [← HXS.out]; exact hge, fun ad e => .inl (by injection e with e; subst e; exact HB1.out.size), G3.out⟩
      rw [← HXS.out]
      exact Z3.out.nx W3.out
    · have e5 : ((r.t : Int) == 5) = false := by rw [beq_eq_false_iff_ne]; exact t5
      have hdt : dtB r = r.da := by unfold dtB; rw [if_neg t5]
      have HF : Hid (FillP w g r A0 (.returned (.int .i64 0)) w) := ⟨A0, c0, rfl, by rw [← hdt]; exact hz, by rw [← hdt]; exact hA, by rw [← hdt]; exact hc0, fun ad e => .inr e, World.grownBy.refl _ _⟩
      clear hz hA hb hl hdt t1 t5 h1 hq
      go_enter Tryd.func33, Tryd.ntmps33
      go_wp2
      go_ret
      exact HF.out
def RowAP (w : World) (be bb ba ga oa c : Nat) (l : List UInt8) (at2 : Nat) (r : Rc) (e : Ending) (w' : World) : Prop :=
  ∃ A' c', e = .returned (.agg #[.string r.nm, .int .i64 r.t, .int .i64 r.c, .int .i64 r.u, .slice A' r.da.length c']) ∧ Bytes w' A' r.da ∧ r.da.length ≤ c' ∧ (∀ ad, A' = some ad → w.heap.size ≤ ad.block) ∧ DS w' be bb ba ga oa c l at2 ∧ K2 w w' be ba
set_option maxRecDepth 100000 in
set_option maxHeartbeats 6400000 in
theorem rowA (w : World) (be bb ba ga oa c : Nat) (P S : List UInt8) (r : Rc) (hq : AOk r) (h14 : r.t = 1 → r.da.length = 4) (hd3 : r.da.length ≤ 3000) (h : DS w be bb ba ga oa c (P ++ aB r ++ S) P.length) :
    Calls Tryd.prog 29 #[.bool true, .pointer (some ⟨be, 0, none⟩), .pointer (some ⟨bb, 0, none⟩), .pointer (some ⟨ba, 0, none⟩)] w (RowAP w be bb ba ga oa c (P ++ aB r ++ S) (P ++ aB r).length r) := by
  obtain ⟨nm, hnm⟩ : ∃ nm, pk (lbs r.nm.data.toList) = nm := ⟨_, rfl⟩
  obtain ⟨dl, hdl⟩ : ∃ dl, (dtB r).length = dl := ⟨_, rfl⟩
  have hdl3 : dl ≤ 3000 := by rw [← hdl]; exact dtB_len hq hd3
  have hqb : aB r = nm ++ beB r.t.toNat 2 ++ beB r.c.toNat 2 ++ beB r.u.toNat 4 ++ beB dl 2 ++ dtB r := by unfold aB qB hdB; rw [hnm, hdl]
  have hun : unp (P ++ aB r ++ S) P.length P.length (-1) [] = (lbs r.nm.data.toList, (((P ++ nm).length : Nat) : Int), 0) := by
    have := unp_at hq.nm P (beB r.t.toNat 2 ++ beB r.c.toNat 2 ++ beB r.u.toNat 4 ++ beB dl 2 ++ dtB r ++ S) P.length
    rw [hnm] at this
    rw [← this, hqb]
    simp only [List.append_assoc]
  have hjn : (⟨(jn (lbs r.nm.data.toList)).toArray⟩ : ByteArray) = r.nm := bytes_ext (by simpa using (isN_goodL hq.nm).2.2)
  obtain ⟨l, hl⟩ : ∃ l, P ++ aB r ++ S = l := ⟨_, rfl⟩
  rw [hl] at h hun ⊢
  have hll : l.length = P.length + nm.length + 2 + 2 + 4 + 2 + dl + S.length := by rw [← hl, hqb]; simp [beB_len, hdl]; omega
  obtain ⟨P3, hP3⟩ : ∃ P3, P ++ nm ++ beB r.t.toNat 2 ++ beB r.c.toNat 2 ++ beB r.u.toNat 4 ++ beB dl 2 = P3 := ⟨_, rfl⟩
  have hl3 : l = P3 ++ dtB r ++ S := by rw [← hl, ← hP3, hqb]; simp only [List.append_assoc]
  obtain ⟨q1, hq1⟩ : ∃ q1, (P ++ nm).length = q1 := ⟨_, rfl⟩
  obtain ⟨q2, hq2⟩ : ∃ q2, (P ++ aB r).length = q2 := ⟨_, rfl⟩
  obtain ⟨q3, hq3'⟩ : ∃ q3, P3.length = q3 := ⟨_, rfl⟩
  have hq31 : q3 = q1 + 10 := by rw [← hq3', ← hq1, ← hP3]; simp [beB_len]; omega
  have hq3 : q2 = q3 + dl := by rw [← hq2, ← hq3', ← hP3, hqb]; simp [beB_len, hdl]; omega
  have hq4 : q2 ≤ l.length := by rw [← hq2, ← hl]; simp
  have hql1 : q1 + 10 ≤ l.length := by omega
  have hdr : l.drop q1 = beB r.t.toNat 2 ++ (beB r.c.toNat 2 ++ (beB r.u.toNat 4 ++ (beB dl 2 ++ (dtB r ++ S)))) := by rw [← hl, hqb, ← hq1, show P ++ (nm ++ beB r.t.toNat 2 ++ beB r.c.toNat 2 ++ beB r.u.toNat 4 ++ beB dl 2 ++ dtB r) ++ S = (P ++ nm) ++ (beB r.t.toNat 2 ++ (beB r.c.toNat 2 ++ (beB r.u.toNat 4 ++ (beB dl 2 ++ (dtB r ++ S))))) by simp only [List.append_assoc]]; exact List.drop_left ..
  have HL3 := Lib.hid hl3
  have HQ3' := Lib.hid hq3'
  have HDL := Lib.hid hdl
  have hsl : l.length = q3 + (dl + S.length) := by rw [hl3, List.length_append, List.length_append, hq3', hdl]; omega
  have HSL := Lib.hid hsl
  rw [hq1] at hun
  rw [hq2]
  have HQ31 := Lib.hid hq31
  have HP3 := Lib.hid hP3
  have H14 := Lib.hid h14
  clear hsl hl3 hq3' hdl hq31 hP3 h14
  have HDR := Lib.hid hdr
  clear hdr hq1 hq2
  have HLL := Lib.hid hll
  have hpl : P.length ≤ l.length := by omega
  clear hll
  have HU := Lib.hid hun
  have HJ := Lib.hid hjn
  have HL := Lib.hid hl
  have HQB := Lib.hid hqb
  have DL := h.ll
  have D1 := Lib.hid (h.nx (al (rf w) (.cells #[.string ⟨#[]⟩, .int .i64 0, .int .i64 0, .int .i64 0, .slice none 0 0] 48)))
  have Z1 := Lib.hid (Blk.new w 48 #[.string ⟨#[]⟩, .int .i64 0, .int .i64 0, .int .i64 0, .slice none 0 0])
  have K1 := Lib.hid (K2.of (x := be) (y := ba) (al (rf w) (.cells #[.string ⟨#[]⟩, .int .i64 0, .int .i64 0, .int .i64 0, .slice none 0 0] 48)))
  have hlc := h.lc
  have hbe := h.e.lt
  have hbb := h.b.lt
  have hba := h.a.lt
  have hga := h.lt
  clear h hun hjn hl hqb hnm
  have e0 : (w.alloc (.cells #[.string ⟨#[]⟩, .int .i64 0, .int .i64 0, .int .i64 0, .slice none 0 0] 48)).cell? ⟨be, 0, none⟩ = some (.int .i64 0) := D1.out.e.cell 0
  have e1 : (w.alloc (.cells #[.string ⟨#[]⟩, .int .i64 0, .int .i64 0, .int .i64 0, .slice none 0 0] 48)).cell? ⟨bb, 0, none⟩ = some (.slice (some ⟨ga, oa, none⟩) l.length c) := D1.out.b.cell 0
  have e2 : (w.alloc (.cells #[.string ⟨#[]⟩, .int .i64 0, .int .i64 0, .int .i64 0, .slice none 0 0] 48)).cell? ⟨ba, 0, none⟩ = some (.int .i64 P.length) := D1.out.a.cell 0
  go_enter Tryd.func29, Tryd.ntmps29
  go_wp2_with fail
  refine (unpC ga oa l c P.length _ D1.out.by_ DL hlc (by omega) _ HU).mono ?_
  rintro e w2 ⟨rfl, b2⟩
  rw [HJ.out]
  have D2 := Lib.hid (D1.out.nx b2)
  have Z2 := Lib.hid (Z1.out.nx b2)
  have K2' := Lib.hid (K1.out.below b2)
  have hz : w.heap.size < w2.heap.size := Z2.out.lt
  clear b2 e0 e1 e2
  have zne : w.heap.size ≠ be := by omega
  have zna : w.heap.size ≠ ba := by omega
  have znb : w.heap.size ≠ bb := by omega
  have zng : w.heap.size ≠ ga := by omega
  -- the name, the place, no error
  have k1 := only_set w2 w.heap.size 0 (.string r.nm)
  have D3 := Lib.hid (D2.out.only k1 zne znb zna zng)
  have Z3 := Lib.hid (Z2.out.set_ 0 (.string r.nm))
  have D4 := Lib.hid (D3.out.setA q1)
  have Z4 := Lib.hid (Z3.out.far (p := ⟨ba, 0, none⟩) zna (.int .i64 (q1 : Nat)))
  have D5 := Lib.hid D4.out.setE
  have Z5 := Lib.hid (Z4.out.far (p := ⟨be, 0, none⟩) zne (.int .i64 0))
  have K5 := Lib.hid (((K2'.out.set (p := ⟨w.heap.size, 0, none⟩) (.inr (.inr (Nat.le_refl _))) (.string r.nm)).set (p := ⟨ba, 0, none⟩) (.inr (.inl rfl)) (.int .i64 (q1 : Nat))).set (p := ⟨be, 0, none⟩) (.inl rfl) (.int .i64 0))
  have s0 : w2.cell? ⟨w.heap.size, 0, none⟩ = some (.string ⟨#[]⟩) := Z2.out.cell 0
  have s0f := Z2.out.frozen 0
  have s1 := D3.out.a.cell 0
  have s1f := D3.out.a.frozen 0
  have s2 := D4.out.e.cell 0
  have s2f := D4.out.e.frozen 0
  have s3 := D5.out.e.cell 0
  have s4 := D5.out.b.cell 0
  have s5 := D5.out.a.cell 0
  simp only [List.getElem?_toArray, List.getElem?_cons_zero] at s1 s2 s3 s4 s5
  dsimp only
  have hq5 : q1 ≤ l.length := by omega
  have hq6 : ¬ c = q1 := by omega
  have HQ3 := Lib.hid hq3
  clear hq3
  go_wp2_with fail
  have N5 := Lib.hid (cut_at D5.out.by_ rfl hq5 hlc hq6)
  have Z5' : Hid (Blk _ w.heap.size 48 #[.string r.nm, .int .i64 0, .int .i64 0, .int .i64 0, .slice none 0 0]) := Z5.out
  clear s0 s0f s1 s1f s2 s2f s3 s4 s5 k1 D2 D3 D4 Z2 Z3 Z4 Z5 K2'
  generalize ((w2.setCell ⟨w.heap.size, 0, none⟩ (.string r.nm)).setCell ⟨ba, 0, none⟩ (.int .i64 (q1 : Nat))).setCell ⟨be, 0, none⟩ (.int .i64 0) = w5 at D5 Z5' K5 N5 ⊢
  refine (newReader w5 (some ⟨ga, oa + q1, none⟩) (l.drop q1) (l.length - q1) (c - q1) N5.out (by rw [List.length_drop]) (by rw [List.length_drop]; omega)).mono ?_
  rintro e w6 ⟨br, rfl, hbr, hR, b6⟩
  rw [HDR.out] at hR
  have hz5 := Z5'.out.lt
  have D6 := Lib.hid (D5.out.nx b6)
  have Z6 := Lib.hid (Z5'.out.nx b6)
  have K6 := Lib.hid (K5.out.below b6)
  have R6 := Lib.hid hR
  have r1 : br ≠ be := by omega
  have r2 : br ≠ bb := by omega
  have r3 : br ≠ ba := by omega
  have r4 : br ≠ ga := by omega
  have r5 : w.heap.size ≠ br := by omega
  have r6 : w.heap.size ≤ br := by omega
  clear hR b6 D5 Z5' K5 N5
  go_wp2_with fail
  refine (rb2 w6 br _ _ R6.out (beB_len _ 2)).mono ?_
  rintro e w7 ⟨rfl, hR7, g7⟩
  have v7 : ((beN (beB r.t.toNat 2) : Nat) : Int) = r.t := by rw [beN_beB2 _ (by have := hq.t0; have := hq.t1; omega)]; have := hq.t0; omega
  rw [v7]
  have D7 := Lib.hid (D6.out.only g7 r1 r2 r3 r4)
  have Z7 := Lib.hid (Z6.out.only g7 r5)
  have K7 := Lib.hid (K6.out.grow g7 r6)
  have R7 := Lib.hid hR7
  clear hR7 g7 v7 D6 Z6 K6 R6
  go_wp2_with fail
  refine (rb2 w7 br _ _ R7.out (beB_len _ 2)).mono ?_
  rintro e w8 ⟨rfl, hR8, g8⟩
  have v8 : ((beN (beB r.c.toNat 2) : Nat) : Int) = r.c := by rw [beN_beB2 _ (by have := hq.c0; have := hq.c1; omega)]; have := hq.c0; omega
  rw [v8]
  have D8 := Lib.hid (D7.out.only g8 r1 r2 r3 r4)
  have Z8 := Lib.hid (Z7.out.only g8 r5)
  have K8 := Lib.hid (K7.out.grow g8 r6)
  have R8 := Lib.hid hR8
  clear hR8 g8 v8 D7 Z7 K7 R7
  have k1 := only_set w8 w.heap.size 1 (.int .i64 r.t)
  have D9 := Lib.hid (D8.out.only k1 zne znb zna zng)
  have Z9 := Lib.hid (Z8.out.set_ 1 (.int .i64 r.t))
  have R9 := Lib.hid (R8.out.oth k1 Z8.out (by decide) (by decide) (by decide))
  have k2 := only_set (w8.setCell ⟨w.heap.size, 1, none⟩ (.int .i64 r.t)) w.heap.size 2 (.int .i64 r.c)
  have D10 := Lib.hid (D9.out.only k2 zne znb zna zng)
  have Z10 : Hid (Blk ((w8.setCell ⟨w.heap.size, 1, none⟩ (.int .i64 r.t)).setCell ⟨w.heap.size, 2, none⟩ (.int .i64 r.c)) w.heap.size 48 #[.string r.nm, .int .i64 r.t, .int .i64 r.c, .int .i64 0, .slice none 0 0]) := Z9.out.set_ 2 (.int .i64 r.c)
  have R10 := Lib.hid (R9.out.oth k2 Z9.out (by decide) (by decide) (by decide))
  have K10 := Lib.hid ((K8.out.set (p := ⟨w.heap.size, 1, none⟩) (.inr (.inr (Nat.le_refl _))) (.int .i64 r.t)).set (p := ⟨w.heap.size, 2, none⟩) (.inr (.inr (Nat.le_refl _))) (.int .i64 r.c))
  have s1 := Z8.out.cell 1
  have s1f := Z8.out.frozen 1
  have s2 := Z9.out.cell 2
  have s2f := Z9.out.frozen 2
  clear k1 k2
  go_wp2_with fail
  clear s1 s1f s2 s2f D8 Z8 K8 R8 D9 Z9 R9
  generalize (w8.setCell ⟨w.heap.size, 1, none⟩ (.int .i64 r.t)).setCell ⟨w.heap.size, 2, none⟩ (.int .i64 r.c) = w10 at D10 Z10 K10 R10 ⊢
  refine (rb4 w10 br _ _ R10.out (beB_len _ 4)).mono ?_
  rintro e w11 ⟨rfl, hR11, g11⟩
  have hu0 := hq.u0
  have hu1 := hq.u1
  have v11 : ((beN (beB r.u.toNat 4) : Nat) : Int) = r.u := by rw [beN_beB4 _ (by omega)]; omega
  rw [v11]
  have D11 := Lib.hid (D10.out.only g11 r1 r2 r3 r4)
  have Z11 := Lib.hid (Z10.out.only g11 r5)
  have K11 := Lib.hid (K10.out.grow g11 r6)
  have R11 := Lib.hid hR11
  clear hR11 g11 v11 D10 Z10 K10 R10
  have k3 := only_set w11 w.heap.size 3 (.int .i64 r.u)
  have D12 := Lib.hid (D11.out.only k3 zne znb zna zng)
  have Z12 : Hid (Blk (w11.setCell ⟨w.heap.size, 3, none⟩ (.int .i64 r.u)) w.heap.size 48 #[.string r.nm, .int .i64 r.t, .int .i64 r.c, .int .i64 r.u, .slice none 0 0]) := Z11.out.set_ 3 (.int .i64 r.u)
  have R12 := Lib.hid (R11.out.oth k3 Z11.out (by decide) (by decide) (by decide))
  have K12 := Lib.hid (K11.out.set (p := ⟨w.heap.size, 3, none⟩) (.inr (.inr (Nat.le_refl _))) (.int .i64 r.u))
  have s3 := Z11.out.cell 3
  have s3f := Z11.out.frozen 3
  clear k3
  go_wp2_with fail
  refine (rb2 _ br _ _ R12.out (beB_len _ 2)).mono ?_
  rintro e w13 ⟨rfl, hR13, g13⟩
  have v13 : ((beN (beB dl 2) : Nat) : Int) = dl := by rw [beN_beB2 _ (by omega)]
  rw [v13]
  have D13 := Lib.hid (D12.out.only g13 r1 r2 r3 r4)
  have Z13 := Lib.hid (Z12.out.only g13 r5)
  have K13 := Lib.hid (K12.out.grow g13 r6)
  obtain ⟨R3, hR3⟩ : ∃ R3, dtB r ++ S = R3 := ⟨_, rfl⟩
  rw [hR3] at hR13
  have HR3 := Lib.hid hR3
  have hR3l : R3.length = dl + S.length := by rw [← hR3, List.length_append, HDL.out]
  have RQ : Hid (∀ n, IsR (w13.drewN n) br R3 0) := fun n => hR13.nx (dn (rf w13) n)
  have sbw : IntKind.i64.wrap ((l.length : Int) - (R3.length : Nat)) = (q3 : Nat) := by
    have h2 := HSL.out
    rw [show ((l.length : Int) - (R3.length : Nat)) = (q3 : Nat) by omega]
    exact IntWalk.i64_in _ (by omega)
  have sb := D13.out.b.cell 0
  simp only [List.getElem?_toArray, List.getElem?_cons_zero] at sb
  clear hR13 g13 v13 D12 Z12 K12 R12 D11 Z11 K11 R11 s3 s3f hR3 hR3l
  go_wp2
  go_quiet ((go_at_call 31; exact Calls.quiet_of ((rleft _ br R3 0 (RQ.out _)).mono fun e w' ⟨h1, h2⟩ => ⟨h1, 0, h2⟩)))
  have D14 := Lib.hid (D13.out.nx (dn (rf w13) nq))
  have Z14 := Lib.hid (Z13.out.nx (dn (rf w13) nq))
  have K14 := Lib.hid (K13.out.below (dn (rf w13) nq))
  have R14 : Hid (IsR (w13.drewN nq) br (dtB r ++ S) 0) := by show IsR _ _ _ _; rw [HR3.out]; exact RQ.out nq
  clear D13 Z13 K13 RQ sbw sb
  generalize w13.drewN nq = w14 at D14 Z14 K14 R14 ⊢
  go_wp2_with fail
  refine (rbraw w14 br (dtB r) S dl R14.out (by rw [HDL.out])).mono ?_
  rintro e w15 ⟨A1, c1, rfl, own, hR15, g15⟩
  have hz14 := Z14.out.lt
  have hnew : ∀ ad, A1 = some ad → w14.heap.size ≤ ad.block := fun ad e => by
    rcases own.2 with ⟨e2, _⟩ | ⟨g, cap, cur, e2, hg, _⟩
    · injection e2 with e2; rw [e2] at e; cases e
    · injection e2 with e2; rw [e2] at e; injection e with e; subst e; exact hg
  have hcap : (dtB r).length ≤ c1 := by
    rcases own.2 with ⟨e2, h2⟩ | ⟨g, cap, cur, e2, hg, _, h2, _⟩
    · injection e2 with _ e2 _; omega
    · injection e2 with _ _ e3; omega
  have HNEW := Lib.hid hnew
  have HA15 := Lib.hid (Bytes.own own)
  have D15 := Lib.hid (D14.out.only g15 r1 r2 r3 r4)
  have Z15 := Lib.hid (Z14.out.only g15 r5)
  have K15 := Lib.hid (K14.out.grow g15 r6)
  have R15 := Lib.hid hR15
  have hs15 := K15.out.size
  have hs14 := K14.out.size
  clear hnew own hR15 g15 D14 Z14 K14 R14
  have k4 := only_set w15 w.heap.size 4 (.slice A1 (dtB r).length c1)
  have D16 := Lib.hid (D15.out.only k4 zne znb zna zng)
  have Z16 : Hid (Blk (w15.setCell ⟨w.heap.size, 4, none⟩ (.slice A1 (dtB r).length c1)) w.heap.size 48 #[.string r.nm, .int .i64 r.t, .int .i64 r.c, .int .i64 r.u, .slice A1 (dtB r).length c1]) := Z15.out.set_ 4 _
  have R16 := Lib.hid (R15.out.oth k4 Z15.out (by decide) (by decide) (by decide))
  have K16 := Lib.hid (K15.out.set (p := ⟨w.heap.size, 4, none⟩) (.inr (.inr (Nat.le_refl _))) (.slice A1 (dtB r).length c1))
  have HA16 := Lib.hid (bytes_only HA15.out k4 (fun ad e => by have := HNEW.out ad e; omega))
  have s4 := Z15.out.cell 4
  have s4f := Z15.out.frozen 4
  clear k4
  go_wp2_with fail
  clear s4 s4f D15 Z15 K15 R15 HA15
  generalize w15.setCell ⟨w.heap.size, 4, none⟩ (.slice A1 (dtB r).length c1) = w16 at D16 Z16 R16 K16 HA16 ⊢
  refine (rerr w16 br S 0 R16.out).mono ?_
  rintro e w' ⟨rfl, e10⟩
  have e11 := e10.symm
  subst e11
  have FC := fillC w16 w.heap.size ga oa c q3 l P3 S r hq H14.out hd3 HL3.out HQ3'.out.symm D16.out.by_ DL hlc A1 c1 Z16.out HA16.out hcap (fun ad e => by have := HNEW.out ad e; omega)
  rw [HDL.out] at FC
  have HFC := Lib.hid FC
  clear FC e10
  have sb := D16.out.b.cell 0
  simp only [List.getElem?_toArray, List.getElem?_cons_zero] at sb
  go_wp2_with fail
  refine HFC.out.mono ?_
  rintro e w17 ⟨A2, c2, rfl, hZ17, hY17, hc2, hn2, g17⟩
  have hz16 := Z16.out.lt
  have hnw : ∀ ad, A2 = some ad → w.heap.size < ad.block := fun ad e => by
    rcases hn2 ad e with h2 | h2
    · omega
    · have := HNEW.out ad h2; omega
  have HNW := Lib.hid hnw
  have D17 := Lib.hid (D16.out.only g17 zne znb zna zng)
  have Z17 := Lib.hid hZ17
  have Y17 := Lib.hid hY17
  have K17 := Lib.hid (K16.out.grow g17 (Nat.le_refl _))
  have R17 := Lib.hid (R16.out.oth g17 Z16.out (by decide) (by decide) (by decide))
  clear hnw hn2 hZ17 hY17 g17 D16 Z16 K16 R16 HA16 sb HFC
  have k5 := only_set w17 be 0 (.int .i64 0)
  have D18 := Lib.hid D17.out.setE
  have Z18 := Lib.hid (Z17.out.far (p := ⟨be, 0, none⟩) zne (.int .i64 0))
  have R18 := Lib.hid (R17.out.oth k5 D17.out.e (by decide) (by decide) (by decide))
  have K18 := Lib.hid (K17.out.set (p := ⟨be, 0, none⟩) (.inl rfl) (.int .i64 0))
  have Y18 := Lib.hid (bytes_only Y17.out k5 (fun ad e => by have := HNW.out ad e; omega))
  have s5 := D17.out.e.cell 0
  have s5f := D17.out.e.frozen 0
  clear k5
  go_wp2_with fail
  clear s5 s5f D17 Z17 K17 R17 Y17
  generalize w17.setCell ⟨be, 0, none⟩ (.int .i64 0) = w18 at D18 Z18 R18 K18 Y18 ⊢
  refine (rerr w18 br S 0 R18.out).mono ?_
  rintro e w' ⟨rfl, e10⟩
  have e11 := e10.symm
  subst e11
  have RD := Lib.hid (R18.out.nx (rf w18).drew)
  have s1 := D18.out.b.cell 0
  have s2 := D18.out.a.cell 0
  have s2f := D18.out.a.frozen 0
  simp only [List.getElem?_toArray, List.getElem?_cons_zero] at s1 s2
  have sbw : IntKind.i64.wrap ((l.length : Int) - (S.length : Nat)) = (q2 : Nat) := by
    have h1 := HSL.out
    have h2 := HQ3.out
    rw [show ((l.length : Int) - (S.length : Nat)) = (q2 : Nat) by omega]
    exact IntWalk.i64_in _ (by omega)
  have D19 := Lib.hid ((D18.out.setA q2).nx (rf _).drew)
  have Z19 := Lib.hid ((Z18.out.far (p := ⟨ba, 0, none⟩) zna (.int .i64 (q2 : Nat))).nx (rf _).drew)
  have K19 := Lib.hid ((K18.out.set (p := ⟨ba, 0, none⟩) (.inr (.inl rfl)) (.int .i64 (q2 : Nat))).below (rf _).drew)
  have Y19 := Lib.hid ((bytes_only Y18.out (only_set w18 ba 0 (.int .i64 (q2 : Nat))) (fun ad e => by have := HNW.out ad e; omega)).nx (rf _).drew)
  go_wp2
  go_region_with (first
      | (go_at_call 31; refine (rleft _ br S 0 RD.out).mono ?_; rintro e w' ⟨rfl, e12⟩; have e13 := e12.symm; subst e13)
      | fail)
  all_goals
    clear s1 s2 s2f sbw
    generalize (w18.setCell ⟨ba, 0, none⟩ (.int .i64 (q2 : Nat))).drew = w11 at D19 Z19 K19 Y19 ⊢
    have y0 := Z19.out.cell 0
    have y1 := Z19.out.cell 1
    have y2 := Z19.out.cell 2
    have y3 := Z19.out.cell 3
    have y4 := Z19.out.cell 4
    simp only [List.getElem?_toArray, List.getElem?_cons_zero, List.getElem?_cons_succ] at y0 y1 y2 y3 y4
    have D20 := Lib.hid (D19.out.only (only_row w11 w.heap.size #[.string r.nm, .int .i64 r.t, .int .i64 r.c, .int .i64 r.u, .slice A2 r.da.length c2]) zne znb zna zng)
    have K20 := Lib.hid (K19.out.row (Nat.le_refl _) #[.string r.nm, .int .i64 r.t, .int .i64 r.c, .int .i64 r.u, .slice A2 r.da.length c2])
    have Y20 := Lib.hid (bytes_only Y19.out (only_row w11 w.heap.size #[.string r.nm, .int .i64 r.t, .int .i64 r.c, .int .i64 r.u, .slice A2 r.da.length c2]) (fun ad e => by have := HNW.out ad e; omega))
    go_wp2_with (refine wpList_store_row rfl 48 (.tmp 5) (.tmp 70) rfl _ #[.string r.nm, .int .i64 r.t, .int .i64 r.c, .int .i64 r.u, .slice A2 r.da.length c2] rfl rfl _ _ Z19.out (by kernel_rfl) rfl (by kernel_rfl) ?_)
    have HX : Blk (w11.setRow w.heap.size #[.string r.nm, .int .i64 r.t, .int .i64 r.c, .int .i64 r.u, .slice A2 r.da.length c2]) w.heap.size 48 #[.string r.nm, .int .i64 r.t, .int .i64 r.c, .int .i64 r.u, .slice A2 r.da.length c2] := setRow_heap _ _ _ _ _ _ Z19.out
    refine bodyPost_ret (v := .agg #[.string r.nm, .int .i64 r.t, .int .i64 r.c, .int .i64 r.u, .slice A2 r.da.length c2]) (results_cell_row rfl _ _ _ _ _ _ _ rfl HX Tryd.underlying48 rfl (by kernel_rfl)) rfl ?_
    exact ⟨A2, c2, rfl, Y20.out, hc2, fun ad e => Nat.le_of_lt (HNW.out ad e), D20.out, K20.out⟩
end Go.Proofs.YtpfkmmmlocmakaaDoor
