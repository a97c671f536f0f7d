/-
  IP: the program's Decode, as far as the header's sum: what is refused there.
-/
import Derived.Test.YthjpdaflgphbbaaDoorIpH
import Derived.Test.YthjpdaflgphbbaaDoorGet4
set_option linter.unusedVariables false
namespace Go.Proofs.YthjpdaflgphbbaaDoor
open Go.RowKit

def zCs : List Value := [.int .i64 0, .int .i64 0, .bool false, .bool false, .int .i64 0, .int .i64 0, .int .i64 0, .int .u32 0, .int .u32 0, .slice none 0 0, .slice none 0 0]
set_option maxHeartbeats 400000 in
theorem rbyte_rd (w : World) (b : Nat) (l : List UInt8) (err : Int) (h : IsR w b l err) (he : err = 0 ∨ err = 2) :
    Calls Tryd.prog 45 #[.pointer (some ⟨b, 0, none⟩)] w fun e w' => e = .returned (.int .i64 (beN (rdN l err 1).1)) ∧ IsR w' b (rdN l err 1).2.1 (rdN l err 1).2.2 ∧ w.grownBy w' (some b) := by
  have hlt := beN_lt (rdN l err 1).1
  have hle : (rdN l err 1).1.length ≤ 1 := by unfold rdN; split <;> simp [List.length_take]; omega
  have hp := Nat.pow_le_pow_right (n := 256) (by omega) hle
  have hs : (beN (rdN l err 1).1 : Int) < 256 := by have : (256 : Nat) ^ 1 = 256 := rfl; omega
  clear hlt hle hp
  go_enter Tryd.func45, Tryd.ntmps45
  go_wp2_with fail
  refine (rnumber _ b l err 1 h he (by omega)).mono ?_
  rintro e w1 ⟨rfl, hR, g⟩
  rw [show ((1 : Nat) : Int) = 1 from rfl] at *
  go_wp2
  go_ret
  exact ⟨rfl, hR, g⟩
set_option maxHeartbeats 400000 in
theorem failC (x : Int) (w : World) : Calls Tryd.prog 43 #[.int .i64 x] w fun e w' => e = .returned (.tuple #[.agg zCs.toArray, .int .i64 x]) ∧ Below w.heap.size w w' := by
  have HZ : Hid (Blk (w.alloc (.cells #[.int .i64 0, .int .i64 0, .bool false, .bool false, .int .i64 0, .int .i64 0, .int .i64 0, .int .u32 0, .int .u32 0, .slice none 0 0, .slice none 0 0] 26)) w.heap.size 26 zCs.toArray) := Blk.new w _ _
  go_enter Tryd.func43, Tryd.ntmps43
  go_wp2_with (refine wpList_store_row rfl 26 (.tmp 2) (.tmp 4) rfl _ zCs.toArray rfl rfl _ _ HZ.out (by kernel_rfl) rfl (by kernel_rfl) ?_)
  exact bodyPost_ret (v := .tuple #[.agg zCs.toArray, .int .i64 x]) ((run_results_cell_tmp rfl _ _ _ _ _ _ _ rfl (setRow_heap _ _ _ _ _ _ HZ.out) Tryd.underlying26 rfl (by kernel_rfl)).trans rfl) rfl ⟨rfl, below_setRow (al (rf w) _) (Nat.le_refl _) _⟩
theorem IsR.lt {w : World} {b : Nat} {l : List UInt8} {err : Int} (h : IsR w b l err) : b < w.heap.size := by
  obtain ⟨A, n, c, x, h1, _⟩ := h
  exact h1.lt
theorem IsR.far {w w' : World} {b g : Nat} {l : List UInt8} {err : Int} {cs : Array Value} (h : IsR w b l err) (k : w.grownBy w' (some g)) (hg : Blk w g 26 cs) : IsR w' b l err := by
  obtain ⟨A, n, c, x, h1, h2, h3, h4, h5, h6, h7⟩ := h
  exact ⟨A, n, c, x, h1.only k (h1.ne_ hg (by decide)), h2.only k (h2.ne_ hg (by decide)), h3, h4, bytes_only h5 k (h6.ne hg (by decide)), h6.only k hg (by decide), h7⟩
def nF (l : List UInt8) : Nat := (l.getD 0 0).toNat % 16 * 4
def wlF (l : List UInt8) : Nat := beN ((l.drop 2).take 2)
def decF (l : List UInt8) : Int := if l.length < 20 then 2 else if (l.getD 0 0).toNat / 16 ≠ 4 ∨ nF l < 20 then 3 else if l.length < nF l then 2 else if wlF l < nF l then 3 else if l.length < wlF l then 2 else if sumB (l.take (nF l)) ≠ 0 then 4 else 0
set_option maxHeartbeats 3200000 in
set_option maxRecDepth 10000 in
theorem decFC (w : World) (A : Option Addr) (l : List UInt8) (n c : Nat) (x : Int) (hb : Bytes w A l) (hn : n = l.length) (hc : l.length ≤ c) (hl : l.length ≤ 1000000) (hx : decF l = x) (h0 : x ≠ 0) :
    Calls Tryd.prog 22 #[.slice A n c] w fun e w' => e = .returned (.tuple #[.agg zCs.toArray, .int .i64 x]) ∧ Below w.heap.size w w' := by
  have HN := Lib.hid hn; clear hn
  have hnl : n = l.length := HN.out
  have Z0 : Hid (Blk (w.alloc (.cells #[.int .i64 0, .int .i64 0, .bool false, .bool false, .int .i64 0, .int .i64 0, .int .i64 0, .int .u32 0, .int .u32 0, .slice none 0 0, .slice none 0 0] 26)) w.heap.size 26 zCs.toArray) := Blk.new w _ _
  have B0 : Hid (Below w.heap.size w (w.alloc (.cells #[.int .i64 0, .int .i64 0, .bool false, .bool false, .int .i64 0, .int .i64 0, .int .i64 0, .int .u32 0, .int .u32 0, .slice none 0 0, .slice none 0 0] 26))) := al (rf w) _
  have HX := Lib.hid hx; clear hx
  by_cases h20 : n < 20
  · have HR : Hid (x = 2) := by show _ = _; rw [← HX.out]; unfold decF; rw [if_pos (by omega)]
    have i1 : (n : Int) < 20 := by omega
    clear hnl h0
    rw [HR.out]
    go_enter Tryd.func22, Tryd.ntmps22
    go_wp2_with fail
    refine (failC 2 _).mono ?_
    rintro e9 w9 ⟨rfl, b9⟩
    have Z9 := Lib.hid (Z0.out.nx b9)
    have B9 := Lib.hid (nx B0.out b9)
    go_wp2_with (refine wpList_store_row rfl 26 (.tmp 2) (.tmp 15) rfl _ zCs.toArray rfl rfl _ _ Z9.out (by kernel_rfl) rfl (by kernel_rfl) ?_)
    exact bodyPost_ret (v := .tuple #[.agg zCs.toArray, .int .i64 2]) ((run_results_cell_tmp rfl _ _ _ _ _ _ _ rfl (setRow_heap _ _ _ _ _ _ Z9.out) Tryd.underlying26 rfl (by kernel_rfl)).trans rfl) rfl ⟨rfl, below_setRow B9.out (Nat.le_refl _) _⟩
  · have i1 : ¬ (n : Int) < 20 := by omega
    obtain ⟨ad, rfl, _, hcl⟩ := (hb.nx B0.out).at_ (show 0 < l.length by omega)
    have hc0 : (w.alloc (.cells #[.int .i64 0, .int .i64 0, .bool false, .bool false, .int .i64 0, .int .i64 0, .int .i64 0, .int .u32 0, .int .u32 0, .slice none 0 0, .slice none 0 0] 26)).cell? ad = some (.int .u8 l[0].toNat) := hcl
    have hg0 : (l.getD 0 0).toNat = l[0].toNat := by rw [List.getD_eq_getElem?_getD, List.getElem?_eq_getElem (by omega)]; rfl
    have bb := l[0].toNat_lt
    generalize l[0].toNat = b0 at hc0 hcl hg0 bb
    have a1 := u8_and15 (x := (b0 : Int)) (by omega) (by omega)
    have HDF : Hid (decF l = if b0 / 16 ≠ 4 ∨ nF l < 20 then 3 else if l.length < nF l then 2 else if wlF l < nF l then 3 else if l.length < wlF l then 2 else if sumB (l.take (nF l)) ≠ 0 then 4 else 0) := by
      show _ = _; unfold decF; rw [if_neg (by omega), hg0]
    obtain ⟨q, hq⟩ : ∃ q, q = nF l := ⟨_, rfl⟩
    have hq2 : q = b0 % 16 * 4 := by rw [hq, nF, hg0]
    have q1 : (b0 : Int) % 16 * 4 = q := by omega
    have qb : q ≤ 60 := by omega
    rw [← hq] at HDF
    have HQ2 := Lib.hid hq2
    have HQ := Lib.hid hq
    clear hq hq2 hcl hg0
    have i2 : (0 : Int) < n := by omega
    by_cases h4 : b0 / 16 = 4
    · have y1 : ((b0 : Int) / 16 != 4) = false := by rw [bne_eq_false_iff_eq]; omega
      by_cases hn20 : q < 20
      · have HR : Hid (x = 3) := by show _ = _; rw [← HX.out, HDF.out, if_pos (.inr hn20)]
        have y2 : (q : Int) < 20 := by omega
        clear hnl h0
        rw [HR.out]
        go_enter Tryd.func22, Tryd.ntmps22
        go_wp2_with fail
        refine (failC 3 _).mono ?_
        rintro e9 w9 ⟨rfl, b9⟩
        have Z9 := Lib.hid (Z0.out.nx b9)
        have B9 := Lib.hid (nx B0.out b9)
        go_wp2_with (refine wpList_store_row rfl 26 (.tmp 2) (.tmp 34) rfl _ zCs.toArray rfl rfl _ _ Z9.out (by kernel_rfl) rfl (by kernel_rfl) ?_)
        exact bodyPost_ret (v := .tuple #[.agg zCs.toArray, .int .i64 3]) ((run_results_cell_tmp rfl _ _ _ _ _ _ _ rfl (setRow_heap _ _ _ _ _ _ Z9.out) Tryd.underlying26 rfl (by kernel_rfl)).trans rfl) rfl ⟨rfl, below_setRow B9.out (Nat.le_refl _) _⟩
      · have y2 : ¬ (q : Int) < 20 := by omega
        by_cases hlt : n < q
        · have HR : Hid (x = 2) := by show _ = _; rw [← HX.out, HDF.out, if_neg (by omega), if_pos (by omega)]
          have y3 : (n : Int) < q := by omega
          clear hnl h0
          rw [HR.out]
          go_enter Tryd.func22, Tryd.ntmps22
          go_wp2_with fail
          refine (failC 2 _).mono ?_
          rintro e9 w9 ⟨rfl, b9⟩
          have Z9 := Lib.hid (Z0.out.nx b9)
          have B9 := Lib.hid (nx B0.out b9)
          go_wp2_with (refine wpList_store_row rfl 26 (.tmp 2) (.tmp 42) rfl _ zCs.toArray rfl rfl _ _ Z9.out (by kernel_rfl) rfl (by kernel_rfl) ?_)
          exact bodyPost_ret (v := .tuple #[.agg zCs.toArray, .int .i64 2]) ((run_results_cell_tmp rfl _ _ _ _ _ _ _ rfl (setRow_heap _ _ _ _ _ _ Z9.out) Tryd.underlying26 rfl (by kernel_rfl)).trans rfl) rfl ⟨rfl, below_setRow B9.out (Nat.le_refl _) _⟩
        · have y3 : ¬ (n : Int) < q := by omega
          have HDG : Hid (decF l = if wlF l < q then 3 else if l.length < wlF l then 2 else if sumB (l.take q) ≠ 0 then 4 else 0) := by
            show _ = _; rw [HDF.out, if_neg (by omega), if_neg (by omega)]
          have HBO := Lib.hid hb
          have e1 : rdN l 0 1 = (l.take 1, l.drop 1, 0) := rd_ok l 1 (by omega)
          have e2 : rdN (l.drop 1) 0 1 = ((l.drop 1).take 1, l.drop 2, 0) := by rw [show (1 : Int) = ((1 : Nat) : Int) from rfl, rd_ok (l.drop 1) 1 (by rw [List.length_drop]; omega), List.drop_drop]
          have e3 : rdN (l.drop 2) 0 2 = ((l.drop 2).take 2, l.drop 4, 0) := by rw [show (2 : Int) = ((2 : Nat) : Int) from rfl, rd_ok (l.drop 2) 2 (by rw [List.length_drop]; omega), List.drop_drop]
          have E1 := Lib.hid e1
          have E2 := Lib.hid e2
          have E3 := Lib.hid e3
          clear e1 e2 e3 HDF hb
          obtain ⟨wl, hwl⟩ : ∃ wl, wl = wlF l := ⟨_, rfl⟩
          rw [← hwl] at HDG
          have HWL := Lib.hid hwl; clear hwl
          by_cases h5 : wl < q
          · have HR : Hid (x = 3) := by show _ = _; rw [← HX.out, HDG.out, if_pos h5]
            have y4 : (wl : Int) < q := by omega
            clear hnl h0
            rw [HR.out]
            go_enter Tryd.func22, Tryd.ntmps22
            go_wp2_with fail
            refine (newReader _ (some ad) l _ c (HBO.out.nx B0.out) HN.out (by omega)).mono ?_
            rintro e1 w1 ⟨b, rfl, hbz, hR, b1⟩
            have hbw : w.heap.size < b := by simp at hbz; omega
            have Z1 := Lib.hid (Z0.out.nx b1)
            have B1 := Lib.hid (nx B0.out b1)
            have R1 := Lib.hid hR
            have ad1 := (HBO.out.nx B1.out)
            clear b1 hR hbz hc0
            go_wp2_with fail
            refine (rbyte_rd w1 b l 0 R1.out (.inl rfl)).mono ?_
            rw [E1.out]
            rintro e2 w2 ⟨rfl, hR, g2⟩
            have Z2 := Lib.hid (Z1.out.only g2 (by omega))
            have B2 := Lib.hid (B1.out.trans (below_only g2 (by omega) B1.out.size))
            have R2 := Lib.hid hR
            clear g2 hR Z1 R1
            have DP : Hid (Blk (w2.alloc (.cells #[.int .i64 0, .int .i64 0, .bool false, .bool false, .int .i64 0, .int .i64 0, .int .i64 0, .int .u32 0, .int .u32 0, .slice none 0 0, .slice none 0 0] 26)) w2.heap.size 26 zCs.toArray) := Blk.new w2 _ _
            have hbl := R2.out.lt
            have hwl := Z2.out.lt
            go_wp2_with fail
            refine (rbyte_rd _ b (l.drop 1) 0 (R2.out.nx (al (rf w2) _)) (.inl rfl)).mono ?_
            rw [E2.out]
            rintro e3 w3 ⟨rfl, hR, g3⟩
            generalize beN ((l.drop 1).take 1) = sv
            have Z3 := Lib.hid ((Z2.out.alloc _).only g3 (by omega))
            have B3 := Lib.hid ((al B2.out _).trans (below_only g3 (by omega) (al B2.out _).size))
            have D3 := Lib.hid (DP.out.only g3 (by omega))
            have k0 : w3.cell? ⟨w2.heap.size, 0, none⟩ = some (.int .i64 0) := D3.out.cell 0
            have f0 := D3.out.frozen 0
            have g4 : World.grownBy w3 (w3.setCell ⟨w2.heap.size, 0, none⟩ (.int .i64 (sv : Nat))) (some w2.heap.size) := only_setCell (p := ⟨w2.heap.size, 0, none⟩) (World.grownBy.refl _ _) (.inl rfl) _
            have Z4 := Lib.hid (Z3.out.only g4 (by omega))
            have B4 := Lib.hid (B3.out.setCell (p := ⟨w2.heap.size, 0, none⟩) (show w.heap.size ≤ w2.heap.size by omega) (.int .i64 (sv : Nat)))
            have R4 := Lib.hid (hR.far g4 D3.out)
            clear g3 hR R2 DP Z2 D3
            go_wp2_with fail
            refine (rtwo_rd _ b (l.drop 2) 0 R4.out (.inl rfl)).mono ?_
            rw [E3.out]
            rintro e5 w5 ⟨rfl, hR, g5⟩
            have Z5 := Lib.hid (Z4.out.only g5 (by omega))
            have B5 := Lib.hid (B4.out.trans (below_only g5 (by omega) B4.out.size))
            clear g5 hR R4 Z4 Z3 g4 k0 f0
            rw [show beN ((l.drop 2).take 2) = wl from HWL.out.symm]
            go_wp2_with fail
            refine (failC 3 _).mono ?_
            rintro e9 w9 ⟨rfl, b9⟩
            have Z9 := Lib.hid (Z5.out.nx b9)
            have B9 := Lib.hid (nx B5.out b9)
            go_wp2_with (refine wpList_store_row rfl 26 (.tmp 2) (.tmp 58) rfl _ zCs.toArray rfl rfl _ _ Z9.out (by kernel_rfl) rfl (by kernel_rfl) ?_)
            exact bodyPost_ret (v := .tuple #[.agg zCs.toArray, .int .i64 3]) ((run_results_cell_tmp rfl _ _ _ _ _ _ _ rfl (setRow_heap _ _ _ _ _ _ Z9.out) Tryd.underlying26 rfl (by kernel_rfl)).trans rfl) rfl ⟨rfl, below_setRow B9.out (Nat.le_refl _) _⟩
          · have y4 : ¬ (wl : Int) < q := by omega
            by_cases h6 : n < wl
            · have HR : Hid (x = 2) := by show _ = _; rw [← HX.out, HDG.out, if_neg h5, if_pos (by omega)]
              have y5 : (n : Int) < wl := by omega
              clear hnl h0
              rw [HR.out]
              go_enter Tryd.func22, Tryd.ntmps22
              go_wp2_with fail
              refine (newReader _ (some ad) l _ c (HBO.out.nx B0.out) HN.out (by omega)).mono ?_
              rintro e1 w1 ⟨b, rfl, hbz, hR, b1⟩
              have hbw : w.heap.size < b := by simp at hbz; omega
              have Z1 := Lib.hid (Z0.out.nx b1)
              have B1 := Lib.hid (nx B0.out b1)
              have R1 := Lib.hid hR
              have ad1 := (HBO.out.nx B1.out)
              clear b1 hR hbz hc0
              go_wp2_with fail
              refine (rbyte_rd w1 b l 0 R1.out (.inl rfl)).mono ?_
              rw [E1.out]
              rintro e2 w2 ⟨rfl, hR, g2⟩
              have Z2 := Lib.hid (Z1.out.only g2 (by omega))
              have B2 := Lib.hid (B1.out.trans (below_only g2 (by omega) B1.out.size))
              have R2 := Lib.hid hR
              clear g2 hR Z1 R1
              have DP : Hid (Blk (w2.alloc (.cells #[.int .i64 0, .int .i64 0, .bool false, .bool false, .int .i64 0, .int .i64 0, .int .i64 0, .int .u32 0, .int .u32 0, .slice none 0 0, .slice none 0 0] 26)) w2.heap.size 26 zCs.toArray) := Blk.new w2 _ _
              have hbl := R2.out.lt
              have hwl := Z2.out.lt
              go_wp2_with fail
              refine (rbyte_rd _ b (l.drop 1) 0 (R2.out.nx (al (rf w2) _)) (.inl rfl)).mono ?_
              rw [E2.out]
              rintro e3 w3 ⟨rfl, hR, g3⟩
              generalize beN ((l.drop 1).take 1) = sv
              have Z3 := Lib.hid ((Z2.out.alloc _).only g3 (by omega))
              have B3 := Lib.hid ((al B2.out _).trans (below_only g3 (by omega) (al B2.out _).size))
              have D3 := Lib.hid (DP.out.only g3 (by omega))
              have k0 : w3.cell? ⟨w2.heap.size, 0, none⟩ = some (.int .i64 0) := D3.out.cell 0
              have f0 := D3.out.frozen 0
              have g4 : World.grownBy w3 (w3.setCell ⟨w2.heap.size, 0, none⟩ (.int .i64 (sv : Nat))) (some w2.heap.size) := only_setCell (p := ⟨w2.heap.size, 0, none⟩) (World.grownBy.refl _ _) (.inl rfl) _
              have Z4 := Lib.hid (Z3.out.only g4 (by omega))
              have B4 := Lib.hid (B3.out.setCell (p := ⟨w2.heap.size, 0, none⟩) (show w.heap.size ≤ w2.heap.size by omega) (.int .i64 (sv : Nat)))
              have R4 := Lib.hid (hR.far g4 D3.out)
              clear g3 hR R2 DP Z2 D3
              go_wp2_with fail
              refine (rtwo_rd _ b (l.drop 2) 0 R4.out (.inl rfl)).mono ?_
              rw [E3.out]
              rintro e5 w5 ⟨rfl, hR, g5⟩
              have Z5 := Lib.hid (Z4.out.only g5 (by omega))
              have B5 := Lib.hid (B4.out.trans (below_only g5 (by omega) B4.out.size))
              clear g5 hR R4 Z4 Z3 g4 k0 f0
              rw [show beN ((l.drop 2).take 2) = wl from HWL.out.symm]
              go_wp2_with fail
              refine (failC 2 _).mono ?_
              rintro e9 w9 ⟨rfl, b9⟩
              have Z9 := Lib.hid (Z5.out.nx b9)
              have B9 := Lib.hid (nx B5.out b9)
              go_wp2_with (refine wpList_store_row rfl 26 (.tmp 2) (.tmp 66) rfl _ zCs.toArray rfl rfl _ _ Z9.out (by kernel_rfl) rfl (by kernel_rfl) ?_)
              exact bodyPost_ret (v := .tuple #[.agg zCs.toArray, .int .i64 2]) ((run_results_cell_tmp rfl _ _ _ _ _ _ _ rfl (setRow_heap _ _ _ _ _ _ Z9.out) Tryd.underlying26 rfl (by kernel_rfl)).trans rfl) rfl ⟨rfl, below_setRow B9.out (Nat.le_refl _) _⟩
            · have y5 : ¬ (n : Int) < wl := by omega
              have hs : sumB (l.take q) ≠ 0 := by
                intro hs
                apply h0
                rw [← HX.out, HDG.out, if_neg h5, if_neg (by omega), if_neg (by simpa using hs)]
              have HR : Hid (x = 4) := by show _ = _; rw [← HX.out, HDG.out, if_neg h5, if_neg (by omega), if_pos hs]
              have hql : q ≤ l.length := by omega
              have y6 : ((sumB (l.take q) : Int) != 0) = true := by rw [bne_iff_ne]; omega
              have y7 : (q : Int) ≤ c := by omega
              have y8 : (0 : Int) ≤ q := by omega
              have hlq : (l.take q).length = q := by rw [List.length_take]; omega
              have HLQ := Lib.hid hlq
              obtain ⟨S, hS⟩ : ∃ S, S = sumB (l.take q) := ⟨_, rfl⟩
              rw [← hS] at y6
              have HS := Lib.hid hS
              clear hnl h0 hs hlq hS
              rw [HR.out]
              go_enter Tryd.func22, Tryd.ntmps22
              go_wp2_with fail
              refine (newReader _ (some ad) l _ c (HBO.out.nx B0.out) HN.out (by omega)).mono ?_
              rintro e1 w1 ⟨b, rfl, hbz, hR, b1⟩
              have hbw : w.heap.size < b := by simp at hbz; omega
              have Z1 := Lib.hid (Z0.out.nx b1)
              have B1 := Lib.hid (nx B0.out b1)
              have R1 := Lib.hid hR
              have ad1 := (HBO.out.nx B1.out)
              clear b1 hR hbz hc0
              go_wp2_with fail
              refine (rbyte_rd w1 b l 0 R1.out (.inl rfl)).mono ?_
              rw [E1.out]
              rintro e2 w2 ⟨rfl, hR, g2⟩
              have Z2 := Lib.hid (Z1.out.only g2 (by omega))
              have B2 := Lib.hid (B1.out.trans (below_only g2 (by omega) B1.out.size))
              have R2 := Lib.hid hR
              clear g2 hR Z1 R1
              have DP : Hid (Blk (w2.alloc (.cells #[.int .i64 0, .int .i64 0, .bool false, .bool false, .int .i64 0, .int .i64 0, .int .i64 0, .int .u32 0, .int .u32 0, .slice none 0 0, .slice none 0 0] 26)) w2.heap.size 26 zCs.toArray) := Blk.new w2 _ _
              have hbl := R2.out.lt
              have hwl := Z2.out.lt
              go_wp2_with fail
              refine (rbyte_rd _ b (l.drop 1) 0 (R2.out.nx (al (rf w2) _)) (.inl rfl)).mono ?_
              rw [E2.out]
              rintro e3 w3 ⟨rfl, hR, g3⟩
              generalize beN ((l.drop 1).take 1) = sv
              have Z3 := Lib.hid ((Z2.out.alloc _).only g3 (by omega))
              have B3 := Lib.hid ((al B2.out _).trans (below_only g3 (by omega) (al B2.out _).size))
              have D3 := Lib.hid (DP.out.only g3 (by omega))
              have k0 : w3.cell? ⟨w2.heap.size, 0, none⟩ = some (.int .i64 0) := D3.out.cell 0
              have f0 := D3.out.frozen 0
              have g4 : World.grownBy w3 (w3.setCell ⟨w2.heap.size, 0, none⟩ (.int .i64 (sv : Nat))) (some w2.heap.size) := only_setCell (p := ⟨w2.heap.size, 0, none⟩) (World.grownBy.refl _ _) (.inl rfl) _
              have Z4 := Lib.hid (Z3.out.only g4 (by omega))
              have B4 := Lib.hid (B3.out.setCell (p := ⟨w2.heap.size, 0, none⟩) (show w.heap.size ≤ w2.heap.size by omega) (.int .i64 (sv : Nat)))
              have R4 := Lib.hid (hR.far g4 D3.out)
              clear g3 hR R2 DP Z2 D3
              go_wp2_with fail
              refine (rtwo_rd _ b (l.drop 2) 0 R4.out (.inl rfl)).mono ?_
              rw [E3.out]
              rintro e5 w5 ⟨rfl, hR, g5⟩
              have Z5 := Lib.hid (Z4.out.only g5 (by omega))
              have B5 := Lib.hid (B4.out.trans (below_only g5 (by omega) B4.out.size))
              clear g5 hR R4 Z4 Z3 g4 k0 f0
              rw [show beN ((l.drop 2).take 2) = wl from HWL.out.symm]
              go_wp2_with fail
              refine (sumC (some ad) c (l.take q) q w5 (take_bytes (HBO.out.nx B5.out) hql) HLQ.out.symm (by rw [HLQ.out]; omega)).mono ?_
              rintro e7 w7 ⟨rfl, rfl⟩
              rw [← HS.out]
              go_wp2_with fail
              refine (failC 4 _).mono ?_
              rintro e9 w9 ⟨rfl, b9⟩
              have Z9 := Lib.hid (Z5.out.nx b9)
              have B9 := Lib.hid (nx B5.out b9)
              go_wp2_with (refine wpList_store_row rfl 26 (.tmp 2) (.tmp 75) rfl _ zCs.toArray rfl rfl _ _ Z9.out (by kernel_rfl) rfl (by kernel_rfl) ?_)
              exact bodyPost_ret (v := .tuple #[.agg zCs.toArray, .int .i64 4]) ((run_results_cell_tmp rfl _ _ _ _ _ _ _ rfl (setRow_heap _ _ _ _ _ _ Z9.out) Tryd.underlying26 rfl (by kernel_rfl)).trans rfl) rfl ⟨rfl, below_setRow B9.out (Nat.le_refl _) _⟩
    · have HR : Hid (x = 3) := by show _ = _; rw [← HX.out, HDF.out, if_pos (.inl h4)]
      have y1 : ((b0 : Int) / 16 != 4) = true := by rw [bne_iff_ne]; omega
      clear hnl h0
      rw [HR.out]
      go_enter Tryd.func22, Tryd.ntmps22
      go_wp2_with fail
      refine (failC 3 _).mono ?_
      rintro e9 w9 ⟨rfl, b9⟩
      have Z9 := Lib.hid (Z0.out.nx b9)
      have B9 := Lib.hid (nx B0.out b9)
      go_wp2_with (refine wpList_store_row rfl 26 (.tmp 2) (.tmp 34) rfl _ zCs.toArray rfl rfl _ _ Z9.out (by kernel_rfl) rfl (by kernel_rfl) ?_)
      exact bodyPost_ret (v := .tuple #[.agg zCs.toArray, .int .i64 3]) ((run_results_cell_tmp rfl _ _ _ _ _ _ _ rfl (setRow_heap _ _ _ _ _ _ Z9.out) Tryd.underlying26 rfl (by kernel_rfl)).trans rfl) rfl ⟨rfl, below_setRow B9.out (Nat.le_refl _) _⟩
end Go.Proofs.YthjpdaflgphbbaaDoor
