/-
  IP: the walk of the law on a header's sum.
-/
import Derived.Test.YthjpdaflgphbbaaDoorIpCt
import Derived.Laws.BitsAllLaws
set_option linter.unusedVariables false
namespace Go.Proofs.YthjpdaflgphbbaaDoor
open Go.RowKit

theorem xor_ne (v b : Nat) (hv : v < 256) (hb : b < 256) (h0 : b ≠ 0) : v ^^^ b ≠ v ∧ v ^^^ b < 256 := by
  refine ⟨fun h => h0 ?_, Nat.xor_lt_two_pow (n := 8) hv hb⟩
  have h1 : v ^^^ (v ^^^ b) = v ^^^ v := by rw [h]
  rw [← Nat.xor_assoc, Nat.xor_self, Nat.zero_xor] at h1
  exact h1
theorem byteCells_set (l : List UInt8) (k v : Nat) (hv : v < 256) : (Lib.byteCells l).set k (.int .u8 (v : Int)) = Lib.byteCells (l.set k (UInt8.ofNat v)) := by
  have e : ((UInt8.ofNat v).toNat : Int) = v := by rw [UInt8.toNat_ofNat']; omega
  simp only [Lib.byteCells, List.map_set]
  rw [e]
set_option maxHeartbeats 3200000 in
set_option maxRecDepth 10000 in
theorem ipSums_walk (w : World) (p : Pk) (o d : Value) (n : Int) (by_ : Nat) (h : AnyPk w p o d) (hE : Env w) (n0 : -9223372036854775808 ≤ n) (n1 : n ≤ 9223372036854775807) (hby : by_ < 256) : Calls Tryd.prog 9 #[.agg (p.cs o d).toArray, .int .i64 n, .int .u8 by_] w fun e w' => e = .returned (.bool true) ∧ Below w.heap.size w w' := by
  have HE := Lib.hid hE; clear hE
  have B0 := Lib.hid (al (rf w) (.cells (p.cs o d).toArray 26))
  have HB := Lib.hid (Blk.new w 26 (p.cs o d).toArray)
  have HB2 := Lib.hid HB.out
  have HA := Lib.hid h
  have HL := Lib.hid (longC _ p o d (⟨h.o.imp fun A ⟨c, h1, h2, h3⟩ => ⟨c, h1, h2.nx B0.out, h3⟩, h.d.imp fun A ⟨c, h1, h2, h3⟩ => ⟨c, h1, h2.nx B0.out, h3⟩, h.off, h.fr, h.to_, h.ol, h.dl⟩ : AnyPk (w.alloc (.cells (p.cs o d).toArray 26)) p o d))
  obtain ⟨⟨A, c, rfl, hb1, hc1⟩, ⟨B, e, rfl, hb2, hc2⟩, _, _, _, _, _⟩ := h
  clear hb1 hb2
  by_cases hlg : 70000 < p.da.length ∨ 4000 < p.op.length
  · have hv : (decide (70000 < p.da.length) || decide (4000 < p.op.length)) = true := by rcases hlg with h | h <;> simp [h]
    rw [hv] at HL
    unfold Pk.cs at HB
    go_enter Tryd.func9, Tryd.ntmps9
    go_wp2_with ((with_reducible refine wpList_load_blk rfl 26 3 rfl w.heap.size 0 11 (by kernel_rfl) 26 _ (p.cs (.slice A p.op.length c) (.slice B p.da.length e)) HB2.out (by kernel_rfl) _ Tryd.underlying26 (by kernel_rfl) (by kernel_rfl) ?_))
    refine HL.out.mono ?_
    rintro e1 w1 ⟨rfl, b1⟩
    go_wp2
    go_ret
    exact ⟨rfl, nx B0.out b1⟩
  · have hv : (decide (70000 < p.da.length) || decide (4000 < p.op.length)) = false := by simp; omega
    have HP := Lib.hid (HA.out.is (by omega) (by omega))
    rw [hv] at HL
    clear hv hlg HA
    unfold Pk.cs at HB
    go_enter Tryd.func9, Tryd.ntmps9
    go_wp2_with ((with_reducible refine wpList_load_blk rfl 26 3 rfl w.heap.size 0 11 (by kernel_rfl) 26 _ (p.cs (.slice A p.op.length c) (.slice B p.da.length e)) HB2.out (by kernel_rfl) _ Tryd.underlying26 (by kernel_rfl) (by kernel_rfl) ?_))
    refine HL.out.mono ?_
    rintro e1 w1 ⟨rfl, b1⟩
    have B1 := Lib.hid (nx B0.out b1)
    have HB1 := Lib.hid (HB2.out.nx b1)
    clear b1 HB HB2 HL B0
    go_wp2_with ((with_reducible refine wpList_load_blk rfl 26 3 rfl w.heap.size 0 11 (by kernel_rfl) 26 _ (p.cs (.slice A p.op.length c) (.slice B p.da.length e)) HB1.out (by kernel_rfl) _ Tryd.underlying26 (by kernel_rfl) (by kernel_rfl) ?_))
    refine (encC w1 p _ _ (HP.out.nx B1.out)).mono ?_
    rintro e2 w2 (⟨hm, v, rfl, own, b2⟩ | ⟨hm, rfl, b2⟩)
    · have OK := Lib.hid (okP_of hm)
      have B2 := Lib.hid (nx B1.out b2)
      obtain ⟨A2, c2, rfl⟩ := own_slice own
      have hsz := size_facts p OK.out
      have hlen := encP_len p
      have hle := OK.out.len
      have Y := Lib.hid (Bytes.own own)
      have hcap : (encP p).length ≤ c2 := by
        obtain ⟨g, cap, hv, _, _, h1, _⟩ := own_form own (by omega)
        injection hv with _ _ h2
        omega
      have HT := Lib.hid (dec_turned p OK.out)
      have hs0 : sumB ((encP p).take (sizeP p.op.length)) = 0 := by
        have e1 : (encP p).take (sizeP p.op.length) = hdr p (sumB (hdr p 0)) := by
          unfold encP
          rw [List.take_left' (by rw [hdr_len])]
        rw [e1]; exact hdr_sum p OK.out
      obtain ⟨a0, a1, a2, a3, r0, he, h0, _⟩ := enc_head p OK.out
      have hb0 : ((encP p).getD 0 0).toNat = 64 + sizeP p.op.length / 4 := by rw [he]; exact h0
      clear he h0
      obtain ⟨g, cap, hv, hgb, hgl, _, _, cur, hbk, _, htk⟩ := own_form own (by omega)
      injection hv with hv1 hv2 hv3
      subst hv1 hv3
      have OWN := Lib.hid own
      clear own b2 hm HB1
      generalize encP p = L at *
      generalize sizeP p.op.length = z at *
      obtain ⟨m, hm⟩ : ∃ m, m = L.length := ⟨_, rfl⟩
      have i1 : ¬ (m : Int) < 20 := by omega
      have HM := Lib.hid hm
      rw [← hm]
      have k0 : w2.cell? ⟨g, 0, none⟩ = some (.int .u8 (L.getD 0 0).toNat) := by
        rw [take_cell hbk htk (by omega), byteCells_at L 0 (by omega)]
        rw [List.getD_eq_getElem?_getD, List.getElem?_eq_getElem (by omega)]; rfl
      generalize (L.getD 0 0).toNat = b0 at hb0 k0
      have q1 : (b0 : Int) % 16 * 4 = z := by omega
      have i2 : ¬ (z : Int) < 20 := by omega
      have i3 : ¬ (m : Int) < z := by omega
      have i4 : (z : Int) ≤ c2 := by omega
      have i5 : z ≤ c2 := by omega
      have hlz : (L.take z).length = z := by rw [List.length_take]; omega
      have HS := Lib.hid (sumC (some ⟨g, 0, none⟩) c2 (L.take z) z w2 (take_bytes Y.out (by omega)) hlz.symm (by omega))
      rw [hs0] at HS
      have kk : ∀ k, k < m → ∃ v : Nat, v < 256 ∧ w2.cell? ⟨g, k, none⟩ = some (.int .u8 (v : Int)) ∧ (L.getD k 0).toNat = v := fun k hk => by
        refine ⟨(L.getD k 0).toNat, (L.getD k 0).toNat_lt, ?_, rfl⟩
        rw [take_cell hbk htk (by omega), byteCells_at L k (by omega)]
        rw [List.getD_eq_getElem?_getD, List.getElem?_eq_getElem (by omega)]; rfl
      have kf : ∀ k, w2.frozen? ⟨g, k, none⟩ = false := fun k => hbk.frozen k
      have KK := Lib.hid kk
      have KF := Lib.hid kf
      have tb1 : n.tmod ((z : Int) - 1) < (z : Int) - 1 := Int.tmod_lt_of_pos n (by omega)
      have tb2 : -((z : Int) - 1) < n.tmod ((z : Int) - 1) := by
        rcases Int.le_total 0 n with h | h
        · rw [Int.tmod_eq_emod_of_nonneg h]
          have := Int.emod_nonneg n (show (z : Int) - 1 ≠ 0 by omega)
          omega
        · obtain ⟨k, rfl⟩ : ∃ k, n = -k := ⟨-n, by omega⟩
          rw [Int.neg_tmod]
          have := Int.tmod_lt_of_pos k (show (0 : Int) < (z : Int) - 1 by omega)
          omega
      obtain ⟨r, hr⟩ : ∃ r, n.tmod ((z : Int) - 1) = r := ⟨_, rfl⟩
      rw [hr] at tb1 tb2
      have i6 : (((z : Int) - 1) == 0) = false := by rw [beq_eq_false_iff_ne]; omega
      have hm2 : m ≤ 65535 := by omega
      have hz2 : 20 ≤ z ∧ z ≤ 60 := by omega
      have hcm : m ≤ c2 := by omega
      clear kk kf hbk htk hs0 hlz hb0 hm hcap hlen hle hsz
      have by2 : ∃ y : Nat, y = (if by_ = 0 then 1 else by_) ∧ y < 256 ∧ y ≠ 0 := ⟨_, rfl, by split <;> omega, by split <;> omega⟩
      obtain ⟨y, hy, hyb, hy0⟩ := by2
      by_cases hr0 : r < 0
      · by_cases hb : by_ = 0
        · subst hb
          clear hy hy0 hyb
          obtain ⟨j, hj⟩ : ∃ j : Nat, (j : Int) = 1 + (r + z - 1) := ⟨(1 + (r + z - 1)).toNat, by omega⟩
          obtain ⟨v, hv, kj, hvj⟩ := KK.out j (by omega)
          have fj := KF.out j
          have hx : bits .xor .u8 (v : Int) 1 = ((v ^^^ 1 : Nat) : Int) := u8_xor_nat v 1 hv (by omega)
          have e1 : 1 + (r + z - 1) = (j : Int) := hj.symm
          have e2 : (j : Int) < m := by omega
          have e3 : (0 : Int) ≤ j := by omega
          have j1 : 1 ≤ j := by omega
          have j2 : j < z := by omega
          obtain ⟨xn, xb⟩ := xor_ne v 1 hv (by omega) (by omega)
          have XN := Lib.hid xn
          have HVJ := Lib.hid hvj
          clear hj xn hvj
          go_wp2_with fail
          refine HS.out.mono ?_
          rintro e3 w3 ⟨rfl, hw3⟩
          subst hw3
          go_wp2_with fail
          generalize v ^^^ 1 = u at XN xb
          have ST := (World.ownsRow.stored OWN.out j (.int .u8 (u : Int))).1
          rw [byteCells_set L j u xb] at ST
          have YB : Bytes (w3.setCell ⟨g, j, none⟩ (.int .u8 (u : Int))) (some ⟨g, 0, none⟩) (L.set j (UInt8.ofNat u)) := Bytes.own (base := w1.heap.size) (c := c2) (by rw [List.length_set]; exact ST)
          have B3 := Lib.hid (B2.out.setCell (p := ⟨g, j, none⟩) (show w.heap.size ≤ g from Nat.le_trans B1.out.size hgb) (.int .u8 (u : Int)))
          have hd : decF (L.set j (UInt8.ofNat u)) ≠ 0 := HT.out j (UInt8.ofNat u) j1 j2 (fun e => XN.out (by
            have := congrArg UInt8.toNat e
            rw [HVJ.out, UInt8.toNat_ofNat'] at this
            omega))
          obtain ⟨x, hxx⟩ : ∃ x, decF (L.set j (UInt8.ofNat u)) = x := ⟨_, rfl⟩
          have hx0 : x ≠ 0 := by rw [← hxx]; exact hd
          refine (decFC _ (some ⟨g, 0, none⟩) (L.set j (UInt8.ofNat u)) m c2 x YB (by rw [List.length_set]; exact HM.out) (by rw [List.length_set, ← HM.out]; exact hcm) (by rw [List.length_set, ← HM.out]; omega) hxx hx0).mono ?_
          rintro e4 w4 ⟨rfl, b4⟩
          have B4 := Lib.hid (nx B3.out b4)
          have y5 : (x != 0) = true := by rw [bne_iff_ne]; exact hx0
          clear b4 hxx hd ST YB hx0
          have HZ : Hid (Blk (w4.alloc (.cells #[.int .i64 0, .int .i64 0, .bool false, .bool false, .int .i64 0, .int .i64 0, .int .i64 0, .int .u32 0, .int .u32 0, .slice none 0 0, .slice none 0 0] 26)) w4.heap.size 26 zCs.toArray) := Blk.new w4 _ _
          have HFIT : Hid (0 + zCs.length ≤ zCs.length) := Nat.le_refl 11
          have HONE : Hid (∀ v ∈ zCs, v.oneCell' = true) := zCs_one
          go_wp2_with ((with_reducible refine wpList_store_blk rfl 26 11 73 rfl w4.heap.size 0 zCs (by kernel_rfl) (by kernel_rfl) 26 zCs HZ.out HFIT.out (by kernel_rfl) HONE.out ?_); intro w5 hB5 g5
                       have B45 : Below w4.heap.size w4 w5 := (al (rf w4) _).trans (below_only g5 (Nat.le_refl _) (by simp)))
          have B5 := Lib.hid (nx B4.out B45)
          refine (known w5 (HE.out.nx B5.out)).mono ?_
          rintro e6 w6 ⟨rfl, b6⟩
          go_wp2
          go_ret
          exact ⟨rfl, nx B5.out b6⟩
        · have yb : ((by_ : Int) == 0) = false := by rw [beq_eq_false_iff_ne]; omega
          clear hy hy0 hyb
          obtain ⟨j, hj⟩ : ∃ j : Nat, (j : Int) = 1 + (r + z - 1) := ⟨(1 + (r + z - 1)).toNat, by omega⟩
          obtain ⟨v, hv, kj, hvj⟩ := KK.out j (by omega)
          have fj := KF.out j
          have hx : bits .xor .u8 (v : Int) by_ = ((v ^^^ by_ : Nat) : Int) := u8_xor_nat v by_ hv (by omega)
          have e1 : 1 + (r + z - 1) = (j : Int) := hj.symm
          have e2 : (j : Int) < m := by omega
          have e3 : (0 : Int) ≤ j := by omega
          have j1 : 1 ≤ j := by omega
          have j2 : j < z := by omega
          obtain ⟨xn, xb⟩ := xor_ne v by_ hv (by omega) (by omega)
          have XN := Lib.hid xn
          have HVJ := Lib.hid hvj
          clear hj xn hvj
          go_wp2_with fail
          refine HS.out.mono ?_
          rintro e3 w3 ⟨rfl, hw3⟩
          subst hw3
          go_wp2_with fail
          generalize v ^^^ by_ = u at XN xb
          have ST := (World.ownsRow.stored OWN.out j (.int .u8 (u : Int))).1
          rw [byteCells_set L j u xb] at ST
          have YB : Bytes (w3.setCell ⟨g, j, none⟩ (.int .u8 (u : Int))) (some ⟨g, 0, none⟩) (L.set j (UInt8.ofNat u)) := Bytes.own (base := w1.heap.size) (c := c2) (by rw [List.length_set]; exact ST)
          have B3 := Lib.hid (B2.out.setCell (p := ⟨g, j, none⟩) (show w.heap.size ≤ g from Nat.le_trans B1.out.size hgb) (.int .u8 (u : Int)))
          have hd : decF (L.set j (UInt8.ofNat u)) ≠ 0 := HT.out j (UInt8.ofNat u) j1 j2 (fun e => XN.out (by
            have := congrArg UInt8.toNat e
            rw [HVJ.out, UInt8.toNat_ofNat'] at this
            omega))
          obtain ⟨x, hxx⟩ : ∃ x, decF (L.set j (UInt8.ofNat u)) = x := ⟨_, rfl⟩
          have hx0 : x ≠ 0 := by rw [← hxx]; exact hd
          refine (decFC _ (some ⟨g, 0, none⟩) (L.set j (UInt8.ofNat u)) m c2 x YB (by rw [List.length_set]; exact HM.out) (by rw [List.length_set, ← HM.out]; exact hcm) (by rw [List.length_set, ← HM.out]; omega) hxx hx0).mono ?_
          rintro e4 w4 ⟨rfl, b4⟩
          have B4 := Lib.hid (nx B3.out b4)
          have y5 : (x != 0) = true := by rw [bne_iff_ne]; exact hx0
          clear b4 hxx hd ST YB hx0
          have HZ : Hid (Blk (w4.alloc (.cells #[.int .i64 0, .int .i64 0, .bool false, .bool false, .int .i64 0, .int .i64 0, .int .i64 0, .int .u32 0, .int .u32 0, .slice none 0 0, .slice none 0 0] 26)) w4.heap.size 26 zCs.toArray) := Blk.new w4 _ _
          have HFIT : Hid (0 + zCs.length ≤ zCs.length) := Nat.le_refl 11
          have HONE : Hid (∀ v ∈ zCs, v.oneCell' = true) := zCs_one
          go_wp2_with ((with_reducible refine wpList_store_blk rfl 26 11 73 rfl w4.heap.size 0 zCs (by kernel_rfl) (by kernel_rfl) 26 zCs HZ.out HFIT.out (by kernel_rfl) HONE.out ?_); intro w5 hB5 g5
                       have B45 : Below w4.heap.size w4 w5 := (al (rf w4) _).trans (below_only g5 (Nat.le_refl _) (by simp)))
          have B5 := Lib.hid (nx B4.out B45)
          refine (known w5 (HE.out.nx B5.out)).mono ?_
          rintro e6 w6 ⟨rfl, b6⟩
          go_wp2
          go_ret
          exact ⟨rfl, nx B5.out b6⟩
      · by_cases hb : by_ = 0
        · subst hb
          clear hy hy0 hyb
          obtain ⟨j, hj⟩ : ∃ j : Nat, (j : Int) = 1 + r := ⟨(1 + r).toNat, by omega⟩
          obtain ⟨v, hv, kj, hvj⟩ := KK.out j (by omega)
          have fj := KF.out j
          have hx : bits .xor .u8 (v : Int) 1 = ((v ^^^ 1 : Nat) : Int) := u8_xor_nat v 1 hv (by omega)
          have e1 : 1 + r = (j : Int) := hj.symm
          have e2 : (j : Int) < m := by omega
          have e3 : (0 : Int) ≤ j := by omega
          have j1 : 1 ≤ j := by omega
          have j2 : j < z := by omega
          obtain ⟨xn, xb⟩ := xor_ne v 1 hv (by omega) (by omega)
          have XN := Lib.hid xn
          have HVJ := Lib.hid hvj
          clear hj xn hvj
          go_wp2_with fail
          refine HS.out.mono ?_
          rintro e3 w3 ⟨rfl, hw3⟩
          subst hw3
          go_wp2_with fail
          generalize v ^^^ 1 = u at XN xb
          have ST := (World.ownsRow.stored OWN.out j (.int .u8 (u : Int))).1
          rw [byteCells_set L j u xb] at ST
          have YB : Bytes (w3.setCell ⟨g, j, none⟩ (.int .u8 (u : Int))) (some ⟨g, 0, none⟩) (L.set j (UInt8.ofNat u)) := Bytes.own (base := w1.heap.size) (c := c2) (by rw [List.length_set]; exact ST)
          have B3 := Lib.hid (B2.out.setCell (p := ⟨g, j, none⟩) (show w.heap.size ≤ g from Nat.le_trans B1.out.size hgb) (.int .u8 (u : Int)))
          have hd : decF (L.set j (UInt8.ofNat u)) ≠ 0 := HT.out j (UInt8.ofNat u) j1 j2 (fun e => XN.out (by
            have := congrArg UInt8.toNat e
            rw [HVJ.out, UInt8.toNat_ofNat'] at this
            omega))
          obtain ⟨x, hxx⟩ : ∃ x, decF (L.set j (UInt8.ofNat u)) = x := ⟨_, rfl⟩
          have hx0 : x ≠ 0 := by rw [← hxx]; exact hd
          refine (decFC _ (some ⟨g, 0, none⟩) (L.set j (UInt8.ofNat u)) m c2 x YB (by rw [List.length_set]; exact HM.out) (by rw [List.length_set, ← HM.out]; exact hcm) (by rw [List.length_set, ← HM.out]; omega) hxx hx0).mono ?_
          rintro e4 w4 ⟨rfl, b4⟩
          have B4 := Lib.hid (nx B3.out b4)
          have y5 : (x != 0) = true := by rw [bne_iff_ne]; exact hx0
          clear b4 hxx hd ST YB hx0
          have HZ : Hid (Blk (w4.alloc (.cells #[.int .i64 0, .int .i64 0, .bool false, .bool false, .int .i64 0, .int .i64 0, .int .i64 0, .int .u32 0, .int .u32 0, .slice none 0 0, .slice none 0 0] 26)) w4.heap.size 26 zCs.toArray) := Blk.new w4 _ _
          have HFIT : Hid (0 + zCs.length ≤ zCs.length) := Nat.le_refl 11
          have HONE : Hid (∀ v ∈ zCs, v.oneCell' = true) := zCs_one
          go_wp2_with ((with_reducible refine wpList_store_blk rfl 26 11 73 rfl w4.heap.size 0 zCs (by kernel_rfl) (by kernel_rfl) 26 zCs HZ.out HFIT.out (by kernel_rfl) HONE.out ?_); intro w5 hB5 g5
                       have B45 : Below w4.heap.size w4 w5 := (al (rf w4) _).trans (below_only g5 (Nat.le_refl _) (by simp)))
          have B5 := Lib.hid (nx B4.out B45)
          refine (known w5 (HE.out.nx B5.out)).mono ?_
          rintro e6 w6 ⟨rfl, b6⟩
          go_wp2
          go_ret
          exact ⟨rfl, nx B5.out b6⟩
        · have yb : ((by_ : Int) == 0) = false := by rw [beq_eq_false_iff_ne]; omega
          clear hy hy0 hyb
          obtain ⟨j, hj⟩ : ∃ j : Nat, (j : Int) = 1 + r := ⟨(1 + r).toNat, by omega⟩
          obtain ⟨v, hv, kj, hvj⟩ := KK.out j (by omega)
          have fj := KF.out j
          have hx : bits .xor .u8 (v : Int) by_ = ((v ^^^ by_ : Nat) : Int) := u8_xor_nat v by_ hv (by omega)
          have e1 : 1 + r = (j : Int) := hj.symm
          have e2 : (j : Int) < m := by omega
          have e3 : (0 : Int) ≤ j := by omega
          have j1 : 1 ≤ j := by omega
          have j2 : j < z := by omega
          obtain ⟨xn, xb⟩ := xor_ne v by_ hv (by omega) (by omega)
          have XN := Lib.hid xn
          have HVJ := Lib.hid hvj
          clear hj xn hvj
          go_wp2_with fail
          refine HS.out.mono ?_
          rintro e3 w3 ⟨rfl, hw3⟩
          subst hw3
          go_wp2_with fail
          generalize v ^^^ by_ = u at XN xb
          have ST := (World.ownsRow.stored OWN.out j (.int .u8 (u : Int))).1
          rw [byteCells_set L j u xb] at ST
          have YB : Bytes (w3.setCell ⟨g, j, none⟩ (.int .u8 (u : Int))) (some ⟨g, 0, none⟩) (L.set j (UInt8.ofNat u)) := Bytes.own (base := w1.heap.size) (c := c2) (by rw [List.length_set]; exact ST)
          have B3 := Lib.hid (B2.out.setCell (p := ⟨g, j, none⟩) (show w.heap.size ≤ g from Nat.le_trans B1.out.size hgb) (.int .u8 (u : Int)))
          have hd : decF (L.set j (UInt8.ofNat u)) ≠ 0 := HT.out j (UInt8.ofNat u) j1 j2 (fun e => XN.out (by
            have := congrArg UInt8.toNat e
            rw [HVJ.out, UInt8.toNat_ofNat'] at this
            omega))
          obtain ⟨x, hxx⟩ : ∃ x, decF (L.set j (UInt8.ofNat u)) = x := ⟨_, rfl⟩
          have hx0 : x ≠ 0 := by rw [← hxx]; exact hd
          refine (decFC _ (some ⟨g, 0, none⟩) (L.set j (UInt8.ofNat u)) m c2 x YB (by rw [List.length_set]; exact HM.out) (by rw [List.length_set, ← HM.out]; exact hcm) (by rw [List.length_set, ← HM.out]; omega) hxx hx0).mono ?_
          rintro e4 w4 ⟨rfl, b4⟩
          have B4 := Lib.hid (nx B3.out b4)
          have y5 : (x != 0) = true := by rw [bne_iff_ne]; exact hx0
          clear b4 hxx hd ST YB hx0
          have HZ : Hid (Blk (w4.alloc (.cells #[.int .i64 0, .int .i64 0, .bool false, .bool false, .int .i64 0, .int .i64 0, .int .i64 0, .int .u32 0, .int .u32 0, .slice none 0 0, .slice none 0 0] 26)) w4.heap.size 26 zCs.toArray) := Blk.new w4 _ _
          have HFIT : Hid (0 + zCs.length ≤ zCs.length) := Nat.le_refl 11
          have HONE : Hid (∀ v ∈ zCs, v.oneCell' = true) := zCs_one
          go_wp2_with ((with_reducible refine wpList_store_blk rfl 26 11 73 rfl w4.heap.size 0 zCs (by kernel_rfl) (by kernel_rfl) 26 zCs HZ.out HFIT.out (by kernel_rfl) HONE.out ?_); intro w5 hB5 g5
                       have B45 : Below w4.heap.size w4 w5 := (al (rf w4) _).trans (below_only g5 (Nat.le_refl _) (by simp)))
          have B5 := Lib.hid (nx B4.out B45)
          refine (known w5 (HE.out.nx B5.out)).mono ?_
          rintro e6 w6 ⟨rfl, b6⟩
          go_wp2
          go_ret
          exact ⟨rfl, nx B5.out b6⟩
    · obtain ⟨M, hM⟩ : ∃ M, M = mayI p := ⟨_, rfl⟩
      have y1 : (M != 0) = true := by rw [bne_iff_ne, hM]; exact hm
      rw [← hM]
      clear hm hM
      have B2 := Lib.hid (nx B1.out b2)
      go_wp2_with fail
      refine (known w2 (HE.out.nx B2.out)).mono ?_
      rintro e3 w3 ⟨rfl, b3⟩
      go_wp2
      go_ret
      exact ⟨rfl, nx B2.out b3⟩
end Go.Proofs.YthjpdaflgphbbaaDoor
