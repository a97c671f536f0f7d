/-
  Groups: which bytes are a message: the program's Decode.
-/
import Derived.Test.YtjkmkafceeblpaaIgE
import Derived.Test.YtjkmkafceeblpaaGetB
set_option linter.unusedVariables false
namespace Go.Proofs.Ytjkmkafceeblpaa
open Go.RowKit

theorem rbyte_rd (w : World) (b : Nat) (l : List UInt8) (n : Nat) (k : List UInt8) (h : IsR w b l 0) (hl : Hid (1 ≤ l.length)) (hn : Hid (beN (l.take 1) = n)) (hk : Hid (l.drop 1 = k)) :
    Calls Try.prog 27 #[.pointer (some ⟨b, 0, none⟩)] w fun e w' => e = .returned (.int .i64 n) ∧ IsR w' b k 0 ∧ w.grownBy w' (some b) := by
  have hr := rd_ok l 1 hl.out
  have hlt := beN_lt (l.take 1)
  have hle : (l.take 1).length ≤ 1 := by rw [List.length_take]; omega
  have hp := Nat.pow_le_pow_right (n := 256) (by omega) hle
  have hs : (n : Int) < 256 := by have h1 := hn.out; have : (256 : Nat) ^ 1 = 256 := rfl; omega
  have HR := Lib.hid hr
  clear hlt hle hp hr
  go_enter Try.func27, Try.ntmps27
  go_wp2_with fail
  refine (rnumber _ b l 0 1 h (.inl rfl) (by omega)).mono ?_
  rintro e w1 ⟨rfl, h1, h2⟩
  have e1 : rdN l 0 (1 : Nat) = _ := HR.out
  rw [e1] at h1 ⊢
  rw [hk.out] at h1
  rw [hn.out]
  clear e1
  go_wp2
  go_ret
  exact ⟨rfl, h1, h2⟩
theorem rfour_rd (w : World) (b : Nat) (l : List UInt8) (n : Nat) (k : List UInt8) (h : IsR w b l 0) (hl : Hid (4 ≤ l.length)) (hn : Hid (beN (l.take 4) = n)) (hk : Hid (l.drop 4 = k)) :
    Calls Try.prog 29 #[.pointer (some ⟨b, 0, none⟩)] w fun e w' => e = .returned (.int .u32 n) ∧ IsR w' b k 0 ∧ w.grownBy w' (some b) := by
  have HR := Lib.hid (rd_ok l 4 hl.out)
  go_enter Try.func29, Try.ntmps29
  go_wp2_with fail
  refine (rnumber _ b l 0 4 h (.inl rfl) (by omega)).mono ?_
  rintro e w1 ⟨rfl, h1, h2⟩
  have e1 : rdN l 0 (4 : Nat) = _ := HR.out
  rw [e1] at h1 ⊢
  rw [hk.out] at h1
  rw [hn.out]
  clear e1
  go_wp2
  go_ret
  exact ⟨rfl, h1, h2⟩
theorem rtwo_rd2 (w : World) (b : Nat) (l : List UInt8) (k : List UInt8) (h : IsR w b l 0) (hl : Hid (2 ≤ l.length)) (hk : Hid (l.drop 2 = k)) :
    Calls Try.prog 28 #[.pointer (some ⟨b, 0, none⟩)] w fun e w' => ∃ v : Int, e = .returned (.int .i64 v) ∧ IsR w' b k 0 ∧ w.grownBy w' (some b) := by
  refine (rtwo_rd w b l 0 h (.inl rfl)).mono ?_
  rintro e w1 ⟨rfl, h1, h2⟩
  have e1 : rdN l 0 2 = (l.take 2, l.drop 2, 0) := rd_ok l 2 hl.out
  rw [e1] at h1
  simp only at h1
  rw [hk.out] at h1
  exact ⟨_, rfl, h1, h2⟩
def igV (ty mx gr : Int) : Value := .agg #[.int .i64 ty, .int .i64 mx, .int .u32 gr]
set_option maxHeartbeats 800000 in
theorem igDecBad (A : Option Addr) (l : List UInt8) (c : Nat) (w : World) (hb : Bytes w A l) (hl : l.length ≤ 1000000) (x : Int) (hx : (l.length < 8 ∧ x = 2) ∨ (8 ≤ l.length ∧ sumB l ≠ 0 ∧ x = 4)) :
    Calls Try.prog 10 #[.slice A l.length c] w fun e w' => e = .returned (.tuple #[.agg #[.int .i64 0, .int .i64 0, .int .u32 0], .int .i64 x]) ∧ Below w.heap.size w w' := by
  have Z := Blk.new w 27 #[.int .i64 0, .int .i64 0, .int .u32 0]
  rcases hx with ⟨h8, rfl⟩ | ⟨h8, hs, rfl⟩
  · have i8 : (l.length : Int) < 8 := by omega
    have HZ := Lib.hid Z
    clear Z
    go_enter Try.func10, Try.ntmps10
    go_wp2_with (refine wpList_store_row rfl 27 (.tmp 2) (.tmp 10) rfl _ #[.int .i64 0, .int .i64 0, .int .u32 0] rfl rfl _ _ HZ.out (by kernel_rfl) rfl (by kernel_rfl) ?_)
    exact bodyPost_ret (v := .tuple #[.agg #[.int .i64 0, .int .i64 0, .int .u32 0], .int .i64 2]) ((run_results_cell_tmp rfl _ _ _ _ _ _ _ rfl (setRow_heap _ _ _ _ _ _ HZ.out) Try.underlying27 rfl (by kernel_rfl)).trans rfl) rfl ⟨rfl, below_setRow (al (rf w) _) (Nat.le_refl _) _⟩
  · have i8 : ¬ (l.length : Int) < 8 := by omega
    have is : ((sumB l : Int) != 0) = true := by rw [bne_iff_ne]; omega
    have HZ := Lib.hid Z
    clear Z hs
    go_enter Try.func10, Try.ntmps10
    go_wp2_with fail
    refine (sumC A c l _ _ (hb.al _) rfl (by omega)).mono ?_
    rintro e w1 ⟨rfl, rfl⟩
    go_wp2_with (refine wpList_store_row rfl 27 (.tmp 2) (.tmp 15) rfl _ #[.int .i64 0, .int .i64 0, .int .u32 0] rfl rfl _ _ HZ.out (by kernel_rfl) rfl (by kernel_rfl) ?_)
    exact bodyPost_ret (v := .tuple #[.agg #[.int .i64 0, .int .i64 0, .int .u32 0], .int .i64 4]) ((run_results_cell_tmp rfl _ _ _ _ _ _ _ rfl (setRow_heap _ _ _ _ _ _ HZ.out) Try.underlying27 rfl (by kernel_rfl)).trans rfl) rfl ⟨rfl, below_setRow (al (rf w) _) (Nat.le_refl _) _⟩
set_option maxHeartbeats 1600000 in
theorem igDecOk (A : Option Addr) (l : List UInt8) (c : Nat) (w : World) (hb : Bytes w A l) (hl : l.length ≤ 1000000) (h8 : 8 ≤ l.length) (hs : sumB l = 0) (p q r : Nat) (hp : Hid (beN (l.take 1) = p)) (hq : Hid (beN ((l.drop 1).take 1) = q)) (hr : Hid (beN ((l.drop 4).take 4) = r)) :
    Calls Try.prog 10 #[.slice A l.length c] w fun e w' => e = .returned (.tuple #[.agg #[.int .i64 p, .int .i64 q, .int .u32 r], .int .i64 0]) ∧ Below w.heap.size w w' := by
  have Z := Lib.hid (Blk.new w 27 #[.int .i64 0, .int .i64 0, .int .u32 0])
  have i8 : ¬ (l.length : Int) < 8 := by omega
  have is : ((sumB l : Int) != 0) = false := by rw [hs]; rfl
  have L1 : Hid (1 ≤ (l.drop 1).length) := by show _ ≤ _; rw [List.length_drop]; omega
  have L2 : Hid (2 ≤ (l.drop 2).length) := by show _ ≤ _; rw [List.length_drop]; omega
  have L4 : Hid (4 ≤ (l.drop 4).length) := by show _ ≤ _; rw [List.length_drop]; omega
  have D1 : Hid ((l.drop 1).drop 1 = l.drop 2) := by show _ = _; rw [List.drop_drop]
  have D2 : Hid ((l.drop 2).drop 2 = l.drop 4) := by show _ = _; rw [List.drop_drop]
  clear hs
  go_enter Try.func10, Try.ntmps10
  go_wp2_with fail
  refine (sumC A c l _ _ (hb.al _) rfl (by omega)).mono ?_
  rintro e w1 ⟨rfl, rfl⟩
  go_wp2_with fail
  refine (newReader _ A l _ c (hb.al _) rfl (by omega)).mono ?_
  rintro e w1 ⟨b, rfl, hbz, hR, hb1⟩
  simp at hbz
  have Z1 := Lib.hid (Z.out.nx hb1)
  have B1 := Lib.hid (nx (al (rf w) _) hb1)
  clear hb1 is
  go_wp2_with fail
  refine (rbyte_rd _ b l p _ hR (by show _ ≤ _; omega) hp rfl).mono ?_
  rintro e w2 ⟨rfl, hR2, g2⟩
  have Z2 := Lib.hid (Z1.out.only g2 (by omega))
  have B2 := Lib.hid (B1.out.trans (below_only g2 (by omega) B1.out.size))
  clear g2 hR
  go_wp2_with fail
  refine (rbyte_rd _ b (l.drop 1) q _ hR2 L1 hq D1).mono ?_
  rintro e w3 ⟨rfl, hR3, g3⟩
  have Z3 := Lib.hid (Z2.out.only g3 (by omega))
  have B3 := Lib.hid (B2.out.trans (below_only g3 (by omega) B2.out.size))
  clear g3 hR2
  have zz3 := Z3.out.lt
  have G3 := Lib.hid (Blk.new w3 27 #[.int .i64 p, .int .i64 q, .int .u32 0])
  have Z3a := Lib.hid (Z3.out.alloc (.cells #[.int .i64 p, .int .i64 q, .int .u32 0] 27))
  have B3a := Lib.hid (al B3.out (.cells #[.int .i64 p, .int .i64 q, .int .u32 0] 27))
  have hR3a := hR3.nx (al (rf w3) (.cells #[.int .i64 p, .int .i64 q, .int .u32 0] 27))
  have hbw3 : b < w3.heap.size := by
    obtain ⟨_, _, _, _, hh, _⟩ := hR3
    exact hh.lt
  clear hR3
  go_wp2_with fail
  refine (rtwo_rd2 _ b (l.drop 2) _ hR3a L2 D2).mono ?_
  rintro e w4 ⟨v4, rfl, hR4, g4⟩
  have Z4 := Lib.hid (Z3a.out.only g4 (by omega))
  have G4 := Lib.hid (G3.out.only g4 (by omega))
  have B4 := Lib.hid (B3a.out.trans (below_only g4 (by omega) B3a.out.size))
  clear g4 hR3a
  go_wp2_with fail
  refine (rfour_rd _ b (l.drop 4) r _ hR4 L4 hr rfl).mono ?_
  rintro e w5 ⟨rfl, hR5, g5⟩
  have Z5 := Lib.hid (Z4.out.only g5 (by omega))
  have G5 := Lib.hid (G4.out.only g5 (by omega))
  have B5 := Lib.hid (B4.out.trans (below_only g5 (by omega) B4.out.size))
  clear g5 hR4 hR5
  generalize w3.heap.size = gd at *
  have k2 : w5.cell? ⟨gd, 2, none⟩ = some (.int .u32 0) := G5.out.cell 2
  have f2 := G5.out.frozen 2
  have G6 := Lib.hid (G5.out.set_ 2 (.int .u32 r))
  have Z6 := Lib.hid (Z5.out.far (p := ⟨gd, 2, none⟩) (by show w.heap.size ≠ gd; omega) (.int .u32 r))
  have B6 := Lib.hid (B5.out.setCell (p := ⟨gd, 2, none⟩) (Nat.le_of_lt zz3) (.int .u32 r))
  have e0 : (w5.setCell ⟨gd, 2, none⟩ (.int .u32 r)).cell? ⟨gd, 0, none⟩ = some (.int .i64 p) := G6.out.cell 0
  have e1 : (w5.setCell ⟨gd, 2, none⟩ (.int .u32 r)).cell? ⟨gd, 1, none⟩ = some (.int .i64 q) := G6.out.cell 1
  have e2 : (w5.setCell ⟨gd, 2, none⟩ (.int .u32 r)).cell? ⟨gd, 2, none⟩ = some (.int .u32 r) := G6.out.cell 2
  go_wp2_with (refine wpList_store_row rfl 27 (.tmp 2) (.tmp 28) rfl _ #[.int .i64 p, .int .i64 q, .int .u32 r] rfl rfl _ _ Z6.out (by kernel_rfl) rfl (by kernel_rfl) ?_)
  exact bodyPost_ret (v := .tuple #[.agg #[.int .i64 p, .int .i64 q, .int .u32 r], .int .i64 0]) ((run_results_cell_tmp rfl _ _ _ _ _ _ _ rfl (setRow_heap _ _ _ _ _ _ Z6.out) Try.underlying27 rfl (by kernel_rfl)).trans rfl) rfl ⟨rfl, below_setRow B6.out (Nat.le_refl _) _⟩
end Go.Proofs.Ytjkmkafceeblpaa
