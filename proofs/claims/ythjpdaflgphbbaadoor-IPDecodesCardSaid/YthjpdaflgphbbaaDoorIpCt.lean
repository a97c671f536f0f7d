/-
  IP: the walk of the law on packets that end too early.
-/
import Derived.Test.YthjpdaflgphbbaaDoorIpEl
import Derived.Test.YthjpdaflgphbbaaDoorIpS
set_option linter.unusedVariables false
namespace Go.Proofs.YthjpdaflgphbbaaDoor
open Go.RowKit

theorem zCs_one : ∀ v ∈ zCs, v.oneCell' = true := by
  intro v hv
  simp only [zCs, List.mem_cons, List.not_mem_nil, or_false] at hv
  rcases hv with rfl | rfl | rfl | rfl | rfl | rfl | rfl | rfl | rfl | rfl | rfl <;> rfl
set_option maxHeartbeats 3200000 in
set_option maxRecDepth 10000 in
theorem packZ (w : World) : Calls Tryd.prog 24 #[.agg zCs.toArray, .agg zCs.toArray] w fun e w' => e = .returned (.bool true) ∧ Below w.heap.size w w' := by
  go_enter Tryd.func24, Tryd.ntmps24
  unfold zCs
  have B0 := Lib.hid (al (al (rf w) (.cells zCs.toArray 26)) (.cells zCs.toArray 26))
  have H1 : Hid (Blk ((w.alloc (.cells zCs.toArray 26)).alloc (.cells zCs.toArray 26)) w.heap.size 26 zCs.toArray) := (Blk.new w _ _).alloc _
  have H2 : Hid (Blk ((w.alloc (.cells zCs.toArray 26)).alloc (.cells zCs.toArray 26)) (w.alloc (.cells zCs.toArray 26)).heap.size 26 zCs.toArray) := Blk.new _ _ _
  go_wp2_with fail
  refine (same_ _ none none [] [] 0 0 0 0 (Bytes.nil _ _) (Bytes.nil _ _) rfl rfl (by simp) (by simp)).mono ?_
  rintro e1 w1 ⟨rfl, b1⟩
  rw [show (([] : List UInt8) == []) = true from rfl]
  have c1 : w1.cell? ⟨w.heap.size, 10, none⟩ = some (.slice none 0 0) := (H1.out.nx b1).cell 10
  have c2 : w1.cell? ⟨w.heap.size + 1, 10, none⟩ = some (.slice none 0 0) := by
    have := (H2.out.nx b1).cell 10
    rw [show (w.alloc (.cells zCs.toArray 26)).heap.size = w.heap.size + 1 by simp] at this
    exact this
  go_wp2_with fail
  refine (same_ _ none none [] [] 0 0 0 0 (Bytes.nil _ _) (Bytes.nil _ _) rfl rfl (by simp) (by simp)).mono ?_
  rintro e2 w2 ⟨rfl, b2⟩
  rw [show (([] : List UInt8) == []) = true from rfl]
  go_wp2
  go_ret
  exact ⟨rfl, nx (nx B0.out b1) b2⟩
set_option maxHeartbeats 3200000 in
set_option maxRecDepth 10000 in
theorem ipCuts_walk (w : World) (p : Pk) (o d : Value) (n : Int) (h : AnyPk w p o d) (hE : Env w) (n0 : -9223372036854775808 ≤ n) (n1 : n ≤ 9223372036854775807) : Calls Tryd.prog 10 #[.agg (p.cs o d).toArray, .int .i64 n] w fun e w' => e = .returned (.bool true) ∧ Below w.heap.size w w' := by
  have HE := Lib.hid hE; clear hE
  have B0 := Lib.hid (al (rf w) (.cells (p.cs o d).toArray 26))
  have HB := Lib.hid (Blk.new w 26 (p.cs o d).toArray)
  have HB2 := Lib.hid HB.out
  have HA := Lib.hid h
  have HL := Lib.hid (longC _ p o d (⟨h.o.imp fun A ⟨c, h1, h2, h3⟩ => ⟨c, h1, h2.nx B0.out, h3⟩, h.d.imp fun A ⟨c, h1, h2, h3⟩ => ⟨c, h1, h2.nx B0.out, h3⟩, h.off, h.fr, h.to_, h.ol, h.dl⟩ : AnyPk (w.alloc (.cells (p.cs o d).toArray 26)) p o d))
  obtain ⟨⟨A, c, rfl, hb1, hc1⟩, ⟨B, e, rfl, hb2, hc2⟩, _, _, _, _, _⟩ := h
  clear hb1 hb2
  by_cases hlg : 70000 < p.da.length ∨ 4000 < p.op.length
  · have hv : (decide (70000 < p.da.length) || decide (4000 < p.op.length)) = true := by rcases hlg with h | h <;> simp [h]
    rw [hv] at HL
    unfold Pk.cs at HB
    go_enter Tryd.func10, Tryd.ntmps10
    go_wp2_with ((with_reducible refine wpList_load_blk rfl 26 2 rfl w.heap.size 0 11 (by kernel_rfl) 26 _ (p.cs (.slice A p.op.length c) (.slice B p.da.length e)) HB2.out (by kernel_rfl) _ Tryd.underlying26 (by kernel_rfl) (by kernel_rfl) ?_))
    refine HL.out.mono ?_
    rintro e1 w1 ⟨rfl, b1⟩
    go_wp2
    go_ret
    exact ⟨rfl, nx B0.out b1⟩
  · have hv : (decide (70000 < p.da.length) || decide (4000 < p.op.length)) = false := by simp; omega
    have HP := Lib.hid (HA.out.is (by omega) (by omega))
    rw [hv] at HL
    clear hv hlg HA
    unfold Pk.cs at HB
    go_enter Tryd.func10, Tryd.ntmps10
    go_wp2_with ((with_reducible refine wpList_load_blk rfl 26 2 rfl w.heap.size 0 11 (by kernel_rfl) 26 _ (p.cs (.slice A p.op.length c) (.slice B p.da.length e)) HB2.out (by kernel_rfl) _ Tryd.underlying26 (by kernel_rfl) (by kernel_rfl) ?_))
    refine HL.out.mono ?_
    rintro e1 w1 ⟨rfl, b1⟩
    have B1 := Lib.hid (nx B0.out b1)
    have HB1 := Lib.hid (HB2.out.nx b1)
    clear b1 HB HB2 HL B0
    go_wp2_with ((with_reducible refine wpList_load_blk rfl 26 2 rfl w.heap.size 0 11 (by kernel_rfl) 26 _ (p.cs (.slice A p.op.length c) (.slice B p.da.length e)) HB1.out (by kernel_rfl) _ Tryd.underlying26 (by kernel_rfl) (by kernel_rfl) ?_))
    refine (encC w1 p _ _ (HP.out.nx B1.out)).mono ?_
    rintro e2 w2 (⟨hm, v, rfl, own, b2⟩ | ⟨hm, rfl, b2⟩)
    · have OK := Lib.hid (okP_of hm)
      have B2 := Lib.hid (nx B1.out b2)
      obtain ⟨A2, c2, rfl⟩ := own_slice own
      have hsz := size_facts p OK.out
      have hlen := encP_len p
      have hle := OK.out.len
      have CUT := Lib.hid (dec_cut p OK.out)
      have Y := Lib.hid (Bytes.own own)
      have hcap : (encP p).length ≤ c2 := by
        obtain ⟨g, cap, hv, _, _, h1, _⟩ := own_form own (by omega)
        injection hv with _ _ h2
        omega
      clear own b2 hm HB1
      generalize encP p = L at *
      obtain ⟨m, hm⟩ : ∃ m, m = L.length := ⟨_, rfl⟩
      have i1 : ¬ (m : Int) < 20 := by omega
      have i2 : ((m : Int) == 0) = false := by rw [beq_eq_false_iff_ne]; omega
      have HM := Lib.hid hm
      rw [← hm]
      have tb1 : n.tmod m < m := Int.tmod_lt_of_pos n (by omega)
      have tb2 : -(m : Int) < n.tmod m := by
        rcases Int.le_total 0 n with h | h
        · rw [Int.tmod_eq_emod_of_nonneg h]
          have := Int.emod_nonneg n (show (m : Int) ≠ 0 by omega)
          omega
        · obtain ⟨k, rfl⟩ : ∃ k, n = -k := ⟨-n, by omega⟩
          rw [Int.neg_tmod]
          have := Int.tmod_lt_of_pos k (show (0 : Int) < m by omega)
          omega
      have hcm : m ≤ c2 := by omega
      have hm2 : m ≤ 65535 := by omega
      clear hm hcap hlen hle hsz
      obtain ⟨r, hr⟩ : ∃ r, n.tmod m = r := ⟨_, rfl⟩
      rw [hr] at tb1 tb2
      have fin : ∀ (W : World) (k : Nat), k < m → Below w2.heap.size w2 W → Calls Tryd.prog 22 #[.slice A2 k c2] W fun e w' => e = .returned (.tuple #[.agg zCs.toArray, .int .i64 2]) ∧ Below W.heap.size W w' := fun W k hk hW => by
        have hk2 : k ≤ L.length := by rw [← HM.out]; omega
        have hl : (L.take k).length = k := by rw [List.length_take]; omega
        refine decFC W A2 (L.take k) k c2 2 (take_bytes (Y.out.nx hW) hk2) hl.symm (by rw [hl]; omega) (by rw [hl]; omega) (CUT.out k (by rw [← HM.out]; exact hk)) (by decide)
      have FIN := Lib.hid fin
      clear fin CUT
      by_cases hr0 : r < 0
      · go_wp2_with fail
        refine (FIN.out w2 (r + (m : Int)).toNat (by omega) (rf w2)).mono ?_
        rintro e3 w3 ⟨rfl, b3⟩
        have B3 := Lib.hid (nx B2.out b3)
        clear b3
        have HZ : Hid (Blk (w3.alloc (.cells #[.int .i64 0, .int .i64 0, .bool false, .bool false, .int .i64 0, .int .i64 0, .int .i64 0, .int .u32 0, .int .u32 0, .slice none 0 0, .slice none 0 0] 26)) w3.heap.size 26 zCs.toArray) := Blk.new w3 _ _
        have HFIT : Hid (0 + zCs.length ≤ zCs.length) := Nat.le_refl 11
        have HONE : Hid (∀ v ∈ zCs, v.oneCell' = true) := zCs_one
        go_wp2_with (first
          | ((with_reducible refine wpList_store_blk rfl 26 8 38 rfl w3.heap.size 0 zCs (by kernel_rfl) (by kernel_rfl) 26 zCs HZ.out HFIT.out (by kernel_rfl) HONE.out ?_); intro w4 hB4 g4
             have B34 : Below w3.heap.size w3 w4 := (al (rf w3) _).trans (below_only g4 (Nat.le_refl _) (by simp))
             have q0 : w4.cell? ⟨w3.heap.size, 0, none⟩ = some (.int .i64 0) := hB4.cell 0
             have q1 : w4.cell? ⟨w3.heap.size, 1, none⟩ = some (.int .i64 0) := hB4.cell 1
             have q2 : w4.cell? ⟨w3.heap.size, 2, none⟩ = some (.bool false) := hB4.cell 2
             have q3 : w4.cell? ⟨w3.heap.size, 3, none⟩ = some (.bool false) := hB4.cell 3
             have q4 : w4.cell? ⟨w3.heap.size, 4, none⟩ = some (.int .i64 0) := hB4.cell 4
             have q5 : w4.cell? ⟨w3.heap.size, 5, none⟩ = some (.int .i64 0) := hB4.cell 5
             have q6 : w4.cell? ⟨w3.heap.size, 6, none⟩ = some (.int .i64 0) := hB4.cell 6
             have q7 : w4.cell? ⟨w3.heap.size, 7, none⟩ = some (.int .u32 0) := hB4.cell 7
             have q8 : w4.cell? ⟨w3.heap.size, 8, none⟩ = some (.int .u32 0) := hB4.cell 8
             have q9 : w4.cell? ⟨w3.heap.size, 9, none⟩ = some (.slice none 0 0) := hB4.cell 9
             have q10 : w4.cell? ⟨w3.heap.size, 10, none⟩ = some (.slice none 0 0) := hB4.cell 10))
        have B4 := Lib.hid (nx B3.out B34)
        refine (packZ w4).mono ?_
        rintro e5 w5 ⟨rfl, b5⟩
        have B5 := Lib.hid (nx B4.out b5)
        go_wp2_with fail
        refine (known w5 (HE.out.nx B5.out)).mono ?_
        rintro e6 w6 ⟨rfl, b6⟩
        go_wp2
        go_ret
        exact ⟨rfl, nx B5.out b6⟩
      · go_wp2_with fail
        refine (FIN.out w2 r.toNat (by omega) (rf w2)).mono ?_
        rintro e3 w3 ⟨rfl, b3⟩
        have B3 := Lib.hid (nx B2.out b3)
        clear b3
        have HZ : Hid (Blk (w3.alloc (.cells #[.int .i64 0, .int .i64 0, .bool false, .bool false, .int .i64 0, .int .i64 0, .int .i64 0, .int .u32 0, .int .u32 0, .slice none 0 0, .slice none 0 0] 26)) w3.heap.size 26 zCs.toArray) := Blk.new w3 _ _
        have HFIT : Hid (0 + zCs.length ≤ zCs.length) := Nat.le_refl 11
        have HONE : Hid (∀ v ∈ zCs, v.oneCell' = true) := zCs_one
        go_wp2_with (first
          | ((with_reducible refine wpList_store_blk rfl 26 8 38 rfl w3.heap.size 0 zCs (by kernel_rfl) (by kernel_rfl) 26 zCs HZ.out HFIT.out (by kernel_rfl) HONE.out ?_); intro w4 hB4 g4
             have B34 : Below w3.heap.size w3 w4 := (al (rf w3) _).trans (below_only g4 (Nat.le_refl _) (by simp))
             have q0 : w4.cell? ⟨w3.heap.size, 0, none⟩ = some (.int .i64 0) := hB4.cell 0
             have q1 : w4.cell? ⟨w3.heap.size, 1, none⟩ = some (.int .i64 0) := hB4.cell 1
             have q2 : w4.cell? ⟨w3.heap.size, 2, none⟩ = some (.bool false) := hB4.cell 2
             have q3 : w4.cell? ⟨w3.heap.size, 3, none⟩ = some (.bool false) := hB4.cell 3
             have q4 : w4.cell? ⟨w3.heap.size, 4, none⟩ = some (.int .i64 0) := hB4.cell 4
             have q5 : w4.cell? ⟨w3.heap.size, 5, none⟩ = some (.int .i64 0) := hB4.cell 5
             have q6 : w4.cell? ⟨w3.heap.size, 6, none⟩ = some (.int .i64 0) := hB4.cell 6
             have q7 : w4.cell? ⟨w3.heap.size, 7, none⟩ = some (.int .u32 0) := hB4.cell 7
             have q8 : w4.cell? ⟨w3.heap.size, 8, none⟩ = some (.int .u32 0) := hB4.cell 8
             have q9 : w4.cell? ⟨w3.heap.size, 9, none⟩ = some (.slice none 0 0) := hB4.cell 9
             have q10 : w4.cell? ⟨w3.heap.size, 10, none⟩ = some (.slice none 0 0) := hB4.cell 10))
        have B4 := Lib.hid (nx B3.out B34)
        refine (packZ w4).mono ?_
        rintro e5 w5 ⟨rfl, b5⟩
        have B5 := Lib.hid (nx B4.out b5)
        go_wp2_with fail
        refine (known w5 (HE.out.nx B5.out)).mono ?_
        rintro e6 w6 ⟨rfl, b6⟩
        go_wp2
        go_ret
        exact ⟨rfl, nx B5.out b6⟩
    · obtain ⟨M, hM⟩ : ∃ M, M = mayI p := ⟨_, rfl⟩
      have y1 : (M != 0) = true := by rw [bne_iff_ne, hM]; exact hm
      rw [← hM]
      clear hm hM
      have B2 := Lib.hid (nx B1.out b2)
      go_wp2_with fail
      refine (known w2 (HE.out.nx B2.out)).mono ?_
      rintro e3 w3 ⟨rfl, b3⟩
      go_wp2
      go_ret
      exact ⟨rfl, nx B2.out b3⟩
end Go.Proofs.YthjpdaflgphbbaaDoor
