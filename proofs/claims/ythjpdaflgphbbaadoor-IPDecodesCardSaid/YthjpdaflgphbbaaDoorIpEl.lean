/-
  IP: the walk of the law on a packet's bytes.
-/
import Derived.Test.YthjpdaflgphbbaaDoorIpL
set_option linter.unusedVariables false
namespace Go.Proofs.YthjpdaflgphbbaaDoor
open Go.RowKit

theorem Pk.one (p : Pk) {o d : Value} (ho : o.oneCell' = true) (hd : d.oneCell' = true) : ∀ v ∈ p.cs o d, v.oneCell' = true := by
  intro v hv
  simp only [Pk.cs, List.mem_cons, List.not_mem_nil, or_false] at hv
  rcases hv with rfl | rfl | rfl | rfl | rfl | rfl | rfl | rfl | rfl | rfl | rfl <;> first | rfl | assumption
def zeroCs : List Value := [.int .i64 0, .int .i64 0, .bool false, .bool false, .int .i64 0, .int .i64 0, .int .i64 0, .int .u32 0, .int .u32 0, .slice none 0 0, .slice none 0 0]
theorem blk6 {w4 : World} {g : Nat} {p : Pk} {o d x y : Value} (h : Blk w4 g 26 (splice zeroCs 0 (p.cs o d)).toArray) : Blk ((w4.setCell ⟨g, 10, none⟩ y).setCell ⟨g, 9, none⟩ x) g 26 (p.cs x y).toArray := (h.set_ 10 y).set_ 9 x
set_option maxHeartbeats 3200000 in
set_option maxRecDepth 10000 in
theorem ipEncodes_walk (w : World) (p : Pk) (o d : Value) (h : AnyPk w p o d) (hE : Env w) : Calls Tryd.prog 3 #[.agg (p.cs o d).toArray] w fun e w' => e = .returned (.bool true) ∧ Below w.heap.size w w' := by
  have HE := Lib.hid hE; clear hE
  have B0 := Lib.hid (al (rf w) (.cells (p.cs o d).toArray 26))
  have HB := Lib.hid (Blk.new w 26 (p.cs o d).toArray)
  have HB2 := Lib.hid HB.out
  have HA := Lib.hid h
  have HL := Lib.hid (longC _ p o d (⟨h.o.imp fun A ⟨c, h1, h2, h3⟩ => ⟨c, h1, h2.nx B0.out, h3⟩, h.d.imp fun A ⟨c, h1, h2, h3⟩ => ⟨c, h1, h2.nx B0.out, h3⟩, h.off, h.fr, h.to_, h.ol, h.dl⟩ : AnyPk (w.alloc (.cells (p.cs o d).toArray 26)) p o d))
  obtain ⟨⟨A, c, rfl, hb1, hc1⟩, ⟨B, e, rfl, hb2, hc2⟩, _, _, _, _, _⟩ := h
  have HO := Lib.hid hb1
  have HD := Lib.hid hb2
  clear hb1 hb2
  by_cases hlg : 70000 < p.da.length ∨ 4000 < p.op.length
  · have hv : (decide (70000 < p.da.length) || decide (4000 < p.op.length)) = true := by rcases hlg with h | h <;> simp [h]
    rw [hv] at HL
    unfold Pk.cs at HB
    go_enter Tryd.func3, Tryd.ntmps3
    go_wp2_with ((with_reducible refine wpList_load_blk rfl 26 1 rfl w.heap.size 0 11 (by kernel_rfl) 26 _ (p.cs (.slice A p.op.length c) (.slice B p.da.length e)) HB2.out (by kernel_rfl) _ Tryd.underlying26 (by kernel_rfl) (by kernel_rfl) ?_))
    refine HL.out.mono ?_
    rintro e1 w1 ⟨rfl, b1⟩
    go_wp2
    go_ret
    exact ⟨rfl, nx B0.out b1⟩
  · have hv : (decide (70000 < p.da.length) || decide (4000 < p.op.length)) = false := by simp; omega
    have HP := Lib.hid (HA.out.is (by omega) (by omega))
    have hol : p.op.length ≤ 4000 := by omega
    have hdl : p.da.length ≤ 70000 := by omega
    rw [hv] at HL
    clear hv hlg HA
    unfold Pk.cs at HB
    go_enter Tryd.func3, Tryd.ntmps3
    go_wp2_with ((with_reducible refine wpList_load_blk rfl 26 1 rfl w.heap.size 0 11 (by kernel_rfl) 26 _ (p.cs (.slice A p.op.length c) (.slice B p.da.length e)) HB2.out (by kernel_rfl) _ Tryd.underlying26 (by kernel_rfl) (by kernel_rfl) ?_))
    refine HL.out.mono ?_
    rintro e1 w1 ⟨rfl, b1⟩
    have B1 := Lib.hid (nx B0.out b1)
    have HB1 := Lib.hid (HB2.out.nx b1)
    clear b1 HB HB2 HL B0
    have c10 : w1.cell? ⟨w.heap.size, 10, none⟩ = some (.slice B p.da.length e) := HB1.out.cell 10
    go_wp2_with fail
    refine (roomy w1 B p.da _ e (HD.out.nx B1.out) rfl (by omega)).mono ?_
    rintro e2 w2 ⟨g2, cap2, rfl, hg2, r2, b2⟩
    have B2 := Lib.hid (nx B1.out b2)
    have HB2 := Lib.hid (HB1.out.nx b2)
    have R2 := Lib.hid r2
    clear b2 r2 c10
    have c9 : w2.cell? ⟨w.heap.size, 9, none⟩ = some (.slice A p.op.length c) := HB2.out.cell 9
    go_wp2_with fail
    refine (roomy w2 A p.op _ c (HO.out.nx B2.out) rfl (by omega)).mono ?_
    rintro e3 w3 ⟨g3, cap3, rfl, hg3, r3, b3⟩
    have B3 := Lib.hid (nx B2.out b3)
    have HB3 := Lib.hid (HB2.out.nx b3)
    have R3 := Lib.hid r3
    have R23 := Lib.hid (R2.out.nx b3)
    clear b3 r3 c9 R2
    have HZ : Hid (Blk (w3.alloc (.cells #[.int .i64 0, .int .i64 0, .bool false, .bool false, .int .i64 0, .int .i64 0, .int .i64 0, .int .u32 0, .int .u32 0, .slice none 0 0, .slice none 0 0] 26)) w3.heap.size 26 zeroCs.toArray) := Blk.new w3 _ _
    have HFIT : Hid (0 + (p.cs (.slice A p.op.length c) (.slice B p.da.length e)).length ≤ zeroCs.length) := Nat.le_refl 11
    have i1 : (p.da.length : Int) ≤ cap2 := by have := R23.out.1; omega
    have i2 : (p.op.length : Int) ≤ cap3 := by have := R3.out.1; omega
    have i3 : p.da.length ≤ cap2 := by omega
    have i4 : p.op.length ≤ cap3 := by omega
    have hgw : w.heap.size < w3.heap.size := HB3.out.lt
    go_wp2_with (first
      | (with_reducible refine wpList_load_blk rfl 26 1 rfl w.heap.size 0 11 (by kernel_rfl) 26 _ (p.cs (.slice A p.op.length c) (.slice B p.da.length e)) HB3.out (by kernel_rfl) _ Tryd.underlying26 (by kernel_rfl) (by kernel_rfl) ?_)
      | ((with_reducible refine wpList_store_blk rfl 26 5 18 rfl w3.heap.size 0 (p.cs (.slice A p.op.length c) (.slice B p.da.length e)) (by kernel_rfl) (by kernel_rfl) 26 zeroCs HZ.out HFIT.out (by kernel_rfl) (p.one rfl rfl) ?_); intro w4 hB4 g4
         have B34 : Below w3.heap.size w3 w4 := (al (rf w3) _).trans (below_only g4 (Nat.le_refl _) (by simp))
         have HB4 := HB3.out.nx B34
         have c10 : w4.cell? ⟨w.heap.size, 10, none⟩ = some (.slice B p.da.length e) := HB4.cell 10
         have c9 : w4.cell? ⟨w.heap.size, 9, none⟩ = some (.slice A p.op.length c) := HB4.cell 9
         have k10 : w4.cell? ⟨w3.heap.size, 10, none⟩ = some (.slice B p.da.length e) := hB4.cell 10
         have k9 : w4.cell? ⟨w3.heap.size, 9, none⟩ = some (.slice A p.op.length c) := hB4.cell 9
         have f10 := hB4.frozen 10
         have f9 := hB4.frozen 9)
      | (with_reducible refine wpList_load_blk rfl 26 5 rfl w3.heap.size 0 11 (by kernel_rfl) 26 (p.cs (.slice (some ⟨g3, 0, none⟩) p.op.length cap3) (.slice (some ⟨g2, 0, none⟩) p.da.length cap2)) (p.cs (.slice (some ⟨g3, 0, none⟩) p.op.length cap3) (.slice (some ⟨g2, 0, none⟩) p.da.length cap2)) (blk6 hB4) (by kernel_rfl) _ Tryd.underlying26 (by kernel_rfl) (by kernel_rfl) ?_))
    have B36 : Below w3.heap.size w3 ((w4.setCell ⟨w3.heap.size, 10, none⟩ (.slice (some ⟨g2, 0, none⟩) p.da.length cap2)).setCell ⟨w3.heap.size, 9, none⟩ (.slice (some ⟨g3, 0, none⟩) p.op.length cap3)) :=
      (B34.setCell (p := ⟨w3.heap.size, 10, none⟩) (Nat.le_refl _) _).setCell (p := ⟨w3.heap.size, 9, none⟩) (Nat.le_refl _) _
    have R3' := R3.out.nx B36
    have R2' := R23.out.nx B36
    have HP6 : IsPk ((w4.setCell ⟨w3.heap.size, 10, none⟩ (.slice (some ⟨g2, 0, none⟩) p.da.length cap2)).setCell ⟨w3.heap.size, 9, none⟩ (.slice (some ⟨g3, 0, none⟩) p.op.length cap3)) p (.slice (some ⟨g3, 0, none⟩) p.op.length cap3) (.slice (some ⟨g2, 0, none⟩) p.da.length cap2) :=
      ⟨⟨_, _, rfl, R3'.bytes, i4⟩, ⟨_, _, rfl, R2'.bytes, i3⟩, HP.out.off, HP.out.fr, HP.out.to_, hol, hdl⟩
    refine (encA _ p _ _ HP6).mono ?_
    rintro e7 w7 ⟨A7, c7, rfl, y7, b7⟩
    have B7 := Lib.hid (nx (nx B3.out B36) b7)
    have HB7 := Lib.hid (HB3.out.nx (nx B36 b7))
    have RD7 := Lib.hid (R2'.nx b7)
    have RO7 := Lib.hid (R3'.nx b7)
    have Y7 := Lib.hid y7
    clear y7 b7 HP6 R3' R2' B36 hB4 g4 B34 HB4 c10 c9 k10 k9 f10 f9 R3 R23 HZ HB3
    have hel := encL_le (p := p)
    have hmm : ((mayI p : Int) == mayI p) = true := by simp
    obtain ⟨m, hm⟩ : ∃ m, m = mayI p := ⟨_, rfl⟩
    rw [← hm]
    go_wp2_with ((with_reducible refine wpList_load_blk rfl 26 1 rfl w.heap.size 0 11 (by kernel_rfl) 26 _ (p.cs (.slice A p.op.length c) (.slice B p.da.length e)) HB7.out (by kernel_rfl) _ Tryd.underlying26 (by kernel_rfl) (by kernel_rfl) ?_))
    refine (rencA w7 p _ _ (HP.out.nx B7.out)).mono ?_
    rintro e8 w8 ⟨A8, c8, rfl, y8, b8⟩
    rw [← hm]
    have B8 := Lib.hid (nx B7.out b8)
    have HB8 := Lib.hid (HB7.out.nx b8)
    have RD8 := Lib.hid (RD7.out.nx b8)
    have RO8 := Lib.hid (RO7.out.nx b8)
    have Y78 := Lib.hid (Y7.out.nx b8)
    have Y8 := Lib.hid y8
    clear y8 b8 HB7 RD7 RO7 Y7 hm
    generalize encL p = L at Y78 Y8 hel
    go_wp2_with fail
    refine (same_ w8 A7 A8 L L _ _ c7 c8 Y78.out Y8.out rfl rfl (by omega) (by omega)).mono ?_
    rintro e9 w9 ⟨rfl, b9⟩
    rw [show (L == L) = true by simp]
    have B9 := Lib.hid (nx B8.out b9)
    have HB9 := Lib.hid (HB8.out.nx b9)
    have RD9 := Lib.hid (RD8.out.nx b9)
    have RO9 := Lib.hid (RO8.out.nx b9)
    clear b9 HB8 RD8 RO8 Y78 Y8 hel
    have c10 : w9.cell? ⟨w.heap.size, 10, none⟩ = some (.slice B p.da.length e) := HB9.out.cell 10
    go_wp2_with fail
    refine (stands w9 B p.da _ g2 cap2 e RD9.out (HD.out.nx B9.out) rfl (by omega)).mono ?_
    rintro e10 w10 ⟨rfl, b10⟩
    have B10 := Lib.hid (nx B9.out b10)
    have RO10 := Lib.hid (RO9.out.nx b10)
    have c9 : w10.cell? ⟨w.heap.size, 9, none⟩ = some (.slice A p.op.length c) := (HB9.out.nx b10).cell 9
    clear b10 HB9 RD9 RO9 c10
    go_wp2_with fail
    refine (stands w10 A p.op _ g3 cap3 c RO10.out (HO.out.nx B10.out) rfl (by omega)).mono ?_
    rintro e11 w11 ⟨rfl, b11⟩
    have B11 := Lib.hid (nx B10.out b11)
    clear b11 RO10 c9
    go_wp2_with fail
    refine (known w11 (HE.out.nx B11.out)).mono ?_
    rintro e12 w12 ⟨rfl, b12⟩
    go_wp2
    go_ret
    exact ⟨rfl, nx B11.out b12⟩
end Go.Proofs.YthjpdaflgphbbaaDoor
