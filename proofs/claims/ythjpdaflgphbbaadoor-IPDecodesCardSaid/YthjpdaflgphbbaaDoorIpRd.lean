/-
  IP: the reference's Decode, what is refused as far as the header's sum.
-/
import Derived.Test.YthjpdaflgphbbaaDoorIpD3
import Derived.Test.YthjpdaflgphbbaaDoorIpR
set_option linter.unusedVariables false
namespace Go.Proofs.YthjpdaflgphbbaaDoor
open Go.RowKit

set_option maxHeartbeats 3200000 in
set_option maxRecDepth 10000 in
theorem rdecFC (w : World) (A : Option Addr) (l : List UInt8) (n c : Nat) (x : Int) (hb : Bytes w A l) (hn : n = l.length) (hc : l.length ≤ c) (hl : l.length ≤ 1000000) (hx : decF l = x) (h0 : x ≠ 0) :
    Calls Tryd.prog 23 #[.slice A n c] w fun e w' => e = .returned (.tuple #[.agg zCs.toArray, .int .i64 x]) ∧ Below w.heap.size w w' := by
  have HN := Lib.hid hn; clear hn
  have hnl : n = l.length := HN.out
  have ZA : Hid (Blk ((w.alloc (.cells #[.int .i64 0, .int .i64 0, .bool false, .bool false, .int .i64 0, .int .i64 0, .int .i64 0, .int .u32 0, .int .u32 0, .slice none 0 0, .slice none 0 0] 26)).alloc (.cells #[.int .i64 0, .int .i64 0, .bool false, .bool false, .int .i64 0, .int .i64 0, .int .i64 0, .int .u32 0, .int .u32 0, .slice none 0 0, .slice none 0 0] 26)) w.heap.size 26 zCs.toArray) := (Blk.new w _ _).alloc _
  have ZB : Hid (Blk ((w.alloc (.cells #[.int .i64 0, .int .i64 0, .bool false, .bool false, .int .i64 0, .int .i64 0, .int .i64 0, .int .u32 0, .int .u32 0, .slice none 0 0, .slice none 0 0] 26)).alloc (.cells #[.int .i64 0, .int .i64 0, .bool false, .bool false, .int .i64 0, .int .i64 0, .int .i64 0, .int .u32 0, .int .u32 0, .slice none 0 0, .slice none 0 0] 26)) (w.heap.size + 1) 26 zCs.toArray) := blk_at _ _ _ (by simp)
  have B0 : Hid (Below w.heap.size w ((w.alloc (.cells #[.int .i64 0, .int .i64 0, .bool false, .bool false, .int .i64 0, .int .i64 0, .int .i64 0, .int .u32 0, .int .u32 0, .slice none 0 0, .slice none 0 0] 26)).alloc (.cells #[.int .i64 0, .int .i64 0, .bool false, .bool false, .int .i64 0, .int .i64 0, .int .i64 0, .int .u32 0, .int .u32 0, .slice none 0 0, .slice none 0 0] 26))) := al (al (rf w) _) _
  have HX := Lib.hid hx; clear hx
  by_cases h20 : n < 20
  · have HR : Hid (x = 2) := by show _ = _; rw [← HX.out]; unfold decF; rw [if_pos (by omega)]
    have i1 : (n : Int) < 20 := by omega
    clear hnl h0
    rw [HR.out]
    go_enter Tryd.func23, Tryd.ntmps23
    go_wp2_with (first
      | ((with_reducible refine wpList_load_blk rfl 26 4 rfl (w.heap.size + 1) 0 11 (by kernel_rfl) 26 _ zCs ZB.out (by kernel_rfl) _ Tryd.underlying26 (by kernel_rfl) (by kernel_rfl) ?_))
      | (refine wpList_store_row rfl 26 (.tmp 2) (.tmp 12) rfl _ zCs.toArray rfl rfl _ _ ZA.out (by kernel_rfl) rfl (by kernel_rfl) ?_))
    exact bodyPost_ret (v := .tuple #[.agg zCs.toArray, .int .i64 2]) ((run_results_cell_tmp rfl _ _ _ _ _ _ _ rfl (setRow_heap _ _ _ _ _ _ ZA.out) Tryd.underlying26 rfl (by kernel_rfl)).trans rfl) rfl ⟨rfl, below_setRow B0.out (Nat.le_refl _) _⟩
  · have i1 : ¬ (n : Int) < 20 := by omega
    obtain ⟨ad, rfl, _, hcl⟩ := (hb.nx B0.out).at_ (show 0 < l.length by omega)
    have hc0 : ((w.alloc (.cells #[.int .i64 0, .int .i64 0, .bool false, .bool false, .int .i64 0, .int .i64 0, .int .i64 0, .int .u32 0, .int .u32 0, .slice none 0 0, .slice none 0 0] 26)).alloc (.cells #[.int .i64 0, .int .i64 0, .bool false, .bool false, .int .i64 0, .int .i64 0, .int .i64 0, .int .u32 0, .int .u32 0, .slice none 0 0, .slice none 0 0] 26)).cell? ad = some (.int .u8 l[0].toNat) := hcl
    have hg0 : (l.getD 0 0).toNat = l[0].toNat := by rw [List.getD_eq_getElem?_getD, List.getElem?_eq_getElem (by omega)]; rfl
    have bb := l[0].toNat_lt
    generalize l[0].toNat = b0 at hc0 hcl hg0 bb
    have HDF : Hid (decF l = if b0 / 16 ≠ 4 ∨ nF l < 20 then 3 else if l.length < nF l then 2 else if wlF l < nF l then 3 else if l.length < wlF l then 2 else if sumB (l.take (nF l)) ≠ 0 then 4 else 0) := by
      show _ = _; unfold decF; rw [if_neg (by omega), hg0]
    obtain ⟨q, hq⟩ : ∃ q, q = nF l := ⟨_, rfl⟩
    have hq2 : q = b0 % 16 * 4 := by rw [hq, nF, hg0]
    have q1 : (b0 : Int) % 16 * 4 = q := by omega
    have q2 : (b0 : Int).tmod 16 = (b0 : Int) % 16 := Int.tmod_eq_emod_of_nonneg (by omega)
    have q3 : (b0 : Int).tdiv 16 = (b0 : Int) / 16 := Int.tdiv_eq_ediv_of_nonneg (by omega)
    have qb : q ≤ 60 := by omega
    rw [← hq] at HDF
    have HQ := Lib.hid hq
    clear hq hq2 hcl hg0
    have i2 : (0 : Int) < n := by omega
    by_cases h4 : b0 / 16 = 4
    · have y1 : ((b0 : Int) / 16 != 4) = false := by rw [bne_eq_false_iff_eq]; omega
      by_cases hn20 : q < 20
      · have HR : Hid (x = 3) := by show _ = _; rw [← HX.out, HDF.out, if_pos (.inr hn20)]
        have y2 : (q : Int) < 20 := by omega
        clear hnl h0
        rw [HR.out]
        go_enter Tryd.func23, Tryd.ntmps23
        go_wp2_with (first
          | ((with_reducible refine wpList_load_blk rfl 26 4 rfl (w.heap.size + 1) 0 11 (by kernel_rfl) 26 _ zCs ZB.out (by kernel_rfl) _ Tryd.underlying26 (by kernel_rfl) (by kernel_rfl) ?_))
          | (refine wpList_store_row rfl 26 (.tmp 2) (.tmp 28) rfl _ zCs.toArray rfl rfl _ _ ZA.out (by kernel_rfl) rfl (by kernel_rfl) ?_))
        exact bodyPost_ret (v := .tuple #[.agg zCs.toArray, .int .i64 3]) ((run_results_cell_tmp rfl _ _ _ _ _ _ _ rfl (setRow_heap _ _ _ _ _ _ ZA.out) Tryd.underlying26 rfl (by kernel_rfl)).trans rfl) rfl ⟨rfl, below_setRow B0.out (Nat.le_refl _) _⟩
      · have y2 : ¬ (q : Int) < 20 := by omega
        by_cases hlt : n < q
        · have HR : Hid (x = 2) := by show _ = _; rw [← HX.out, HDF.out, if_neg (by omega), if_pos (by omega)]
          have y3 : (n : Int) < q := by omega
          clear hnl h0
          rw [HR.out]
          go_enter Tryd.func23, Tryd.ntmps23
          go_wp2_with (first
            | ((with_reducible refine wpList_load_blk rfl 26 4 rfl (w.heap.size + 1) 0 11 (by kernel_rfl) 26 _ zCs ZB.out (by kernel_rfl) _ Tryd.underlying26 (by kernel_rfl) (by kernel_rfl) ?_))
            | (refine wpList_store_row rfl 26 (.tmp 2) (.tmp 33) rfl _ zCs.toArray rfl rfl _ _ ZA.out (by kernel_rfl) rfl (by kernel_rfl) ?_))
          exact bodyPost_ret (v := .tuple #[.agg zCs.toArray, .int .i64 2]) ((run_results_cell_tmp rfl _ _ _ _ _ _ _ rfl (setRow_heap _ _ _ _ _ _ ZA.out) Tryd.underlying26 rfl (by kernel_rfl)).trans rfl) rfl ⟨rfl, below_setRow B0.out (Nat.le_refl _) _⟩
        · have y3 : ¬ (n : Int) < q := by omega
          have HDG : Hid (decF l = if wlF l < q then 3 else if l.length < wlF l then 2 else if sumB (l.take q) ≠ 0 then 4 else 0) := by
            show _ = _; rw [HDF.out, if_neg (by omega), if_neg (by omega)]
          have HBO := Lib.hid hb
          clear hb HDF
          obtain ⟨wl, hwl⟩ : ∃ wl, wl = wlF l := ⟨_, rfl⟩
          rw [← hwl] at HDG
          have HWL := Lib.hid hwl; clear hwl
          by_cases h5 : wl < q
          · have HR : Hid (x = 3) := by show _ = _; rw [← HX.out, HDG.out, if_pos h5]
            have y4 : (wl : Int) < q := by omega
            rw [HR.out]
            clear hnl
            go_enter Tryd.func23, Tryd.ntmps23
            go_wp2_with fail
            refine (get2 _ (some ad) l n c 2 2 (HBO.out.nx B0.out) rfl HN.out (by have := HN.out; omega) (by omega)).mono ?_
            rintro e1 w1 ⟨rfl, m1, hw1⟩
            have b1 : Below ((w.alloc (.cells #[.int .i64 0, .int .i64 0, .bool false, .bool false, .int .i64 0, .int .i64 0, .int .i64 0, .int .u32 0, .int .u32 0, .slice none 0 0, .slice none 0 0] 26)).alloc (.cells #[.int .i64 0, .int .i64 0, .bool false, .bool false, .int .i64 0, .int .i64 0, .int .i64 0, .int .u32 0, .int .u32 0, .slice none 0 0, .slice none 0 0] 26)).heap.size ((w.alloc (.cells #[.int .i64 0, .int .i64 0, .bool false, .bool false, .int .i64 0, .int .i64 0, .int .i64 0, .int .u32 0, .int .u32 0, .slice none 0 0, .slice none 0 0] 26)).alloc (.cells #[.int .i64 0, .int .i64 0, .bool false, .bool false, .int .i64 0, .int .i64 0, .int .i64 0, .int .u32 0, .int .u32 0, .slice none 0 0, .slice none 0 0] 26)) w1 := by rw [hw1]; exact dn (rf _) _
            have ZA1 := Lib.hid (ZA.out.nx b1)
            have ZB1 := Lib.hid (ZB.out.nx b1)
            have B1 := Lib.hid (nx B0.out b1)
            clear b1 hw1 hc0
            rw [show beN ((l.drop 2).take 2) = wl from HWL.out.symm]
            go_wp2_with (first
              | ((with_reducible refine wpList_load_blk rfl 26 4 rfl (w.heap.size + 1) 0 11 (by kernel_rfl) 26 _ zCs ZB1.out (by kernel_rfl) _ Tryd.underlying26 (by kernel_rfl) (by kernel_rfl) ?_))
              | (refine wpList_store_row rfl 26 (.tmp 2) (.tmp 39) rfl _ zCs.toArray rfl rfl _ _ ZA1.out (by kernel_rfl) rfl (by kernel_rfl) ?_))
            exact bodyPost_ret (v := .tuple #[.agg zCs.toArray, .int .i64 3]) ((run_results_cell_tmp rfl _ _ _ _ _ _ _ rfl (setRow_heap _ _ _ _ _ _ ZA1.out) Tryd.underlying26 rfl (by kernel_rfl)).trans rfl) rfl ⟨rfl, below_setRow B1.out (Nat.le_refl _) _⟩
          · have y4 : ¬ (wl : Int) < q := by omega
            by_cases h6 : n < wl
            · have HR : Hid (x = 2) := by show _ = _; rw [← HX.out, HDG.out, if_neg h5, if_pos (by omega)]
              have y5 : (n : Int) < wl := by omega
              rw [HR.out]
              clear hnl
              go_enter Tryd.func23, Tryd.ntmps23
              go_wp2_with fail
              refine (get2 _ (some ad) l n c 2 2 (HBO.out.nx B0.out) rfl HN.out (by have := HN.out; omega) (by omega)).mono ?_
              rintro e1 w1 ⟨rfl, m1, hw1⟩
              have b1 : Below ((w.alloc (.cells #[.int .i64 0, .int .i64 0, .bool false, .bool false, .int .i64 0, .int .i64 0, .int .i64 0, .int .u32 0, .int .u32 0, .slice none 0 0, .slice none 0 0] 26)).alloc (.cells #[.int .i64 0, .int .i64 0, .bool false, .bool false, .int .i64 0, .int .i64 0, .int .i64 0, .int .u32 0, .int .u32 0, .slice none 0 0, .slice none 0 0] 26)).heap.size ((w.alloc (.cells #[.int .i64 0, .int .i64 0, .bool false, .bool false, .int .i64 0, .int .i64 0, .int .i64 0, .int .u32 0, .int .u32 0, .slice none 0 0, .slice none 0 0] 26)).alloc (.cells #[.int .i64 0, .int .i64 0, .bool false, .bool false, .int .i64 0, .int .i64 0, .int .i64 0, .int .u32 0, .int .u32 0, .slice none 0 0, .slice none 0 0] 26)) w1 := by rw [hw1]; exact dn (rf _) _
              have ZA1 := Lib.hid (ZA.out.nx b1)
              have ZB1 := Lib.hid (ZB.out.nx b1)
              have B1 := Lib.hid (nx B0.out b1)
              clear b1 hw1 hc0
              rw [show beN ((l.drop 2).take 2) = wl from HWL.out.symm]
              go_wp2_with (first
                | ((with_reducible refine wpList_load_blk rfl 26 4 rfl (w.heap.size + 1) 0 11 (by kernel_rfl) 26 _ zCs ZB1.out (by kernel_rfl) _ Tryd.underlying26 (by kernel_rfl) (by kernel_rfl) ?_))
                | (refine wpList_store_row rfl 26 (.tmp 2) (.tmp 44) rfl _ zCs.toArray rfl rfl _ _ ZA1.out (by kernel_rfl) rfl (by kernel_rfl) ?_))
              exact bodyPost_ret (v := .tuple #[.agg zCs.toArray, .int .i64 2]) ((run_results_cell_tmp rfl _ _ _ _ _ _ _ rfl (setRow_heap _ _ _ _ _ _ ZA1.out) Tryd.underlying26 rfl (by kernel_rfl)).trans rfl) rfl ⟨rfl, below_setRow B1.out (Nat.le_refl _) _⟩
            · have y5 : ¬ (n : Int) < wl := by omega
              have hs : sumB (l.take q) ≠ 0 := by
                intro hs
                apply h0
                rw [← HX.out, HDG.out, if_neg h5, if_neg (by omega), if_neg (by simpa using hs)]
              have HR : Hid (x = 4) := by show _ = _; rw [← HX.out, HDG.out, if_neg h5, if_neg (by omega), if_pos hs]
              have hql : q ≤ l.length := by omega
              have y6 : ((sumB (l.take q) : Int) != 0) = true := by rw [bne_iff_ne]; omega
              have y7 : (q : Int) ≤ c := by omega
              have y8 : (0 : Int) ≤ q := by omega
              have hlq : (l.take q).length = q := by rw [List.length_take]; omega
              have HLQ := Lib.hid hlq
              obtain ⟨S, hS⟩ : ∃ S, S = sumB (l.take q) := ⟨_, rfl⟩
              rw [← hS] at y6
              have HS := Lib.hid hS
              clear hs hlq hS
              rw [HR.out]
              clear hnl
              go_enter Tryd.func23, Tryd.ntmps23
              go_wp2_with fail
              refine (get2 _ (some ad) l n c 2 2 (HBO.out.nx B0.out) rfl HN.out (by have := HN.out; omega) (by omega)).mono ?_
              rintro e1 w1 ⟨rfl, m1, hw1⟩
              have b1 : Below ((w.alloc (.cells #[.int .i64 0, .int .i64 0, .bool false, .bool false, .int .i64 0, .int .i64 0, .int .i64 0, .int .u32 0, .int .u32 0, .slice none 0 0, .slice none 0 0] 26)).alloc (.cells #[.int .i64 0, .int .i64 0, .bool false, .bool false, .int .i64 0, .int .i64 0, .int .i64 0, .int .u32 0, .int .u32 0, .slice none 0 0, .slice none 0 0] 26)).heap.size ((w.alloc (.cells #[.int .i64 0, .int .i64 0, .bool false, .bool false, .int .i64 0, .int .i64 0, .int .i64 0, .int .u32 0, .int .u32 0, .slice none 0 0, .slice none 0 0] 26)).alloc (.cells #[.int .i64 0, .int .i64 0, .bool false, .bool false, .int .i64 0, .int .i64 0, .int .i64 0, .int .u32 0, .int .u32 0, .slice none 0 0, .slice none 0 0] 26)) w1 := by rw [hw1]; exact dn (rf _) _
              have ZA1 := Lib.hid (ZA.out.nx b1)
              have ZB1 := Lib.hid (ZB.out.nx b1)
              have B1 := Lib.hid (nx B0.out b1)
              clear b1 hw1 hc0
              rw [show beN ((l.drop 2).take 2) = wl from HWL.out.symm]
              go_wp2_with fail
              refine (sumF (some ad) c (l.take q) q w1 (take_bytes (HBO.out.nx B1.out) hql) HLQ.out.symm (by rw [HLQ.out]; omega)).mono ?_
              rintro e7 w7 ⟨rfl, rfl⟩
              rw [← HS.out]
              go_wp2_with (first
                | ((with_reducible refine wpList_load_blk rfl 26 4 rfl (w.heap.size + 1) 0 11 (by kernel_rfl) 26 _ zCs ZB1.out (by kernel_rfl) _ Tryd.underlying26 (by kernel_rfl) (by kernel_rfl) ?_))
                | (refine wpList_store_row rfl 26 (.tmp 2) (.tmp 50) rfl _ zCs.toArray rfl rfl _ _ ZA1.out (by kernel_rfl) rfl (by kernel_rfl) ?_))
              exact bodyPost_ret (v := .tuple #[.agg zCs.toArray, .int .i64 4]) ((run_results_cell_tmp rfl _ _ _ _ _ _ _ rfl (setRow_heap _ _ _ _ _ _ ZA1.out) Tryd.underlying26 rfl (by kernel_rfl)).trans rfl) rfl ⟨rfl, below_setRow B1.out (Nat.le_refl _) _⟩
    · have HR : Hid (x = 3) := by show _ = _; rw [← HX.out, HDF.out, if_pos (.inl h4)]
      have y1 : ((b0 : Int) / 16 != 4) = true := by rw [bne_iff_ne]; omega
      clear hnl h0
      rw [HR.out]
      go_enter Tryd.func23, Tryd.ntmps23
      go_wp2_with (first
        | ((with_reducible refine wpList_load_blk rfl 26 4 rfl (w.heap.size + 1) 0 11 (by kernel_rfl) 26 _ zCs ZB.out (by kernel_rfl) _ Tryd.underlying26 (by kernel_rfl) (by kernel_rfl) ?_))
        | (refine wpList_store_row rfl 26 (.tmp 2) (.tmp 28) rfl _ zCs.toArray rfl rfl _ _ ZA.out (by kernel_rfl) rfl (by kernel_rfl) ?_))
      exact bodyPost_ret (v := .tuple #[.agg zCs.toArray, .int .i64 3]) ((run_results_cell_tmp rfl _ _ _ _ _ _ _ rfl (setRow_heap _ _ _ _ _ _ ZA.out) Tryd.underlying26 rfl (by kernel_rfl)).trans rfl) rfl ⟨rfl, below_setRow B0.out (Nat.le_refl _) _⟩
end Go.Proofs.YthjpdaflgphbbaaDoor
