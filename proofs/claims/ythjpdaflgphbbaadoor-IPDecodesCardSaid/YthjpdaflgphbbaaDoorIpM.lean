/-
  IP: a packet, in plain Lean; what is wrong with it, in the program and in the reference.
-/
import Derived.Test.YthjpdaflgphbbaaDoorIpO
import Derived.Test.YthjpdaflgphbbaaDoorMem
set_option linter.unusedVariables false
namespace Go.Proofs.YthjpdaflgphbbaaDoor
open Go.RowKit

structure Pk where
  sv : Int
  id : Int
  wh : Bool
  mo : Bool
  off : Int
  lf : Int
  pr : Int
  fr : Nat
  to_ : Nat
  op : List UInt8
  da : List UInt8
def Pk.cs (p : Pk) (o d : Value) : List Value := [.int .i64 p.sv, .int .i64 p.id, .bool p.wh, .bool p.mo, .int .i64 p.off, .int .i64 p.lf, .int .i64 p.pr, .int .u32 p.fr, .int .u32 p.to_, o, d]
def i64 (n : Int) : Prop := -9223372036854775808 ≤ n ∧ n ≤ 9223372036854775807
-- a packet as a value: its two rows lie in the world
structure IsPk (w : World) (p : Pk) (o d : Value) : Prop where
  o : ∃ A c, o = .slice A p.op.length c ∧ Bytes w A p.op ∧ p.op.length ≤ c
  d : ∃ A c, d = .slice A p.da.length c ∧ Bytes w A p.da ∧ p.da.length ≤ c
  off : i64 p.off
  fr : p.fr < 4294967296
  to_ : p.to_ < 4294967296
  ol : p.op.length ≤ 4000
  dl : p.da.length ≤ 70000
theorem IsPk.nx {w w' : World} {p : Pk} {o d : Value} (h : IsPk w p o d) (k : Below w.heap.size w w') : IsPk w' p o d := by
  obtain ⟨⟨A, c, h1, h2, h3⟩, ⟨B, e, h4, h5, h6⟩, h7, h8, h9, h10, h11⟩ := h
  exact ⟨⟨A, c, h1, h2.nx k, h3⟩, ⟨B, e, h4, h5.nx k, h6⟩, h7, h8, h9, h10, h11⟩
def sizeP (n : Nat) : Nat := 20 + (n + 3) / 4 * 4
def bad1 (p : Pk) : Prop := p.sv < 0 ∨ 255 < p.sv ∨ p.lf < 0 ∨ 255 < p.lf ∨ p.pr < 0 ∨ 255 < p.pr ∨ p.id < 0 ∨ 65535 < p.id ∨ p.off < 0 ∨ 65528 < p.off ∨ p.off % 8 ≠ 0
instance (p : Pk) : Decidable (bad1 p) := by unfold bad1; infer_instance
def inP (p : Pk) : Bool := decide (sizeP p.op.length + p.da.length ≤ 65535) && decide (p.off + p.da.length ≤ 65535 - (sizeP p.op.length : Int))
def mayI (p : Pk) : Int := if bad1 p then 1 else if 40 < p.op.length ∨ gd p.op 0 = false then 3 else if inP p = false then 5 else 0
theorem p_tdiv (n : Nat) : (((n : Int) + 3).tdiv 4 : Int) = ((n + 3) / 4 : Nat) := by rw [Int.tdiv_eq_ediv_of_nonneg (by omega)]; omega

set_option maxHeartbeats 400000 in
theorem sizeC (w : World) (A : Option Addr) (n c : Nat) (hn : n ≤ 4000) : Calls Tryd.prog 28 #[.slice A n c] w fun e w' => e = .returned (.int .i64 (sizeP n)) ∧ w' = w := by
  have t1 := p_tdiv n
  obtain ⟨q, hq⟩ : ∃ q, q = (n + 3) / 4 := ⟨_, rfl⟩
  rw [← hq] at t1
  have HR : Hid (20 + (q : Int) * 4 = sizeP n) := by show _ = _; unfold sizeP; rw [← hq]; omega
  have hqb : q ≤ 1001 := by omega
  clear hq
  go_enter Tryd.func28, Tryd.ntmps28
  go_wp2
  go_ret
  rw [← HR.out]
  exact ⟨rfl, rfl⟩
set_option maxHeartbeats 400000 in
theorem headC (w : World) (p : Pk) (o d : Value) (h : IsPk w p o d) : Calls Tryd.prog 57 #[.agg (p.cs o d).toArray] w fun e w' => e = .returned (.int .i64 (sizeP p.op.length)) ∧ Below w.heap.size w w' := by
  obtain ⟨⟨A, c, rfl, _, _⟩, _, _, _, _, hn, _⟩ := h
  have t1 := p_tdiv p.op.length
  obtain ⟨q, hq⟩ : ∃ q, q = (p.op.length + 3) / 4 := ⟨_, rfl⟩
  rw [← hq] at t1
  have HR : Hid (20 + (q : Int) * 4 = sizeP p.op.length) := by show _ = _; unfold sizeP; rw [← hq]; omega
  have hqb : q ≤ 1001 := by omega
  clear hq
  unfold Pk.cs
  go_enter Tryd.func57, Tryd.ntmps57
  go_wp2
  go_ret
  rw [← HR.out]
  exact ⟨rfl, al (rf w) _⟩
set_option maxHeartbeats 400000 in
theorem withinC (w : World) (p : Pk) (o d : Value) (h : IsPk w p o d) (h0 : 0 ≤ p.off) (h1 : p.off ≤ 1000000) : Calls Tryd.prog 50 #[.agg (p.cs o d).toArray] w fun e w' => e = .returned (.bool (inP p)) ∧ Below w.heap.size w w' := by
  obtain ⟨⟨A, c, rfl, _, _⟩, ⟨B, e, rfl, _, _⟩, _, _, _, hn, hm⟩ := h
  have HS := Lib.hid (sizeC (w.alloc (.cells (p.cs (.slice A p.op.length c) (.slice B p.da.length e)).toArray 26)) A p.op.length c hn)
  have hz : sizeP p.op.length ≤ 4024 := by unfold sizeP; omega
  have HI : Hid (inP p = (decide (sizeP p.op.length + p.da.length ≤ 65535) && decide (p.off + p.da.length ≤ 65535 - (sizeP p.op.length : Int)))) := rfl
  generalize inP p = r at HI ⊢
  generalize sizeP p.op.length = z at HS hz HI
  unfold Pk.cs at HS ⊢
  by_cases a1 : z + p.da.length ≤ 65535
  · have i1 : (z : Int) + p.da.length ≤ 65535 := by omega
    by_cases a2 : p.off + p.da.length ≤ 65535 - (z : Int)
    · have HR : Hid (r = true) := by show _ = _; rw [HI.out]; simp [a1, a2]
      clear HI
      go_enter Tryd.func50, Tryd.ntmps50
      go_wp2_with (go_at_call 28; refine HS.out.mono ?_; rintro e w' ⟨rfl, rfl⟩)
      go_ret
      rw [HR.out]
      exact ⟨rfl, al (rf w) _⟩
    · have HR : Hid (r = false) := by show _ = _; rw [HI.out]; simp [a1, a2]
      have i2 : decide (p.off + p.da.length ≤ 65535 - (z : Int)) = false := by rw [decide_eq_false_iff_not]; exact a2
      clear HI
      go_enter Tryd.func50, Tryd.ntmps50
      go_wp2_with (go_at_call 28; refine HS.out.mono ?_; rintro e w' ⟨rfl, rfl⟩)
      go_ret
      rw [HR.out]
      exact ⟨rfl, al (rf w) _⟩
  · have i1 : ¬ (z : Int) + p.da.length ≤ 65535 := by omega
    have HR : Hid (r = false) := by show _ = _; rw [HI.out]; simp [a1]
    clear HI
    go_enter Tryd.func50, Tryd.ntmps50
    go_wp2_with (go_at_call 28; refine HS.out.mono ?_; rintro e w' ⟨rfl, rfl⟩)
    go_ret
    rw [HR.out]
    exact ⟨rfl, al (rf w) _⟩

theorem idx5 (a b c d e : Int) (k : Nat) (hk : k < 5) (i : Int) (hi : i = k) (x y : Value) (hx : (([Value.int .i64 a, .int .i64 255, .int .i64 b, .int .i64 255, .int .i64 c, .int .i64 255, .int .i64 d, .int .i64 65535, .int .i64 e, .int .i64 65528].drop (k * 2)).take 2) = [x, y]) (w : World) :
    (Instr.index 81 (.agg #[.int .i64 a, .int .i64 255, .int .i64 b, .int .i64 255, .int .i64 c, .int .i64 255, .int .i64 d, .int .i64 65535, .int .i64 e, .int .i64 65528]) (.int .i64 i)).run Tryd.prog w = .ok (.agg #[x, y]) w := by
  subst hi
  have i2 : Tryd.prog.underlying 81 = some (.array 5 80) := by kernel_rfl
  have i3 : ∀ w, (isAgg 80).run Tryd.prog w = .ok true w := by intro w; kernel_rfl
  have i4 : ∀ w, (sizeOf 80).run Tryd.prog w = .ok 2 w := by intro w; kernel_rfl
  simp [Instr.index, run_underlying i2, part, i3, i4, asIntOf, hk, hx]
def nthI (p : Pk) : Nat → Int | 0 => p.sv | 1 => p.lf | 2 => p.pr | 3 => p.id | _ => p.off
def nthM : Nat → Int | 0 => 255 | 1 => 255 | 2 => 255 | 3 => 65535 | _ => 65528
theorem wrongB0 {w wr : World} {o : Obj} (hb : Below (w.heap.size + 1) (w.alloc o) wr) : Below w.heap.size w wr := (al (rf w) o).trans (hb.mono (by omega))
theorem wrongB {w wr : World} {o : Obj} (hb : Below (w.heap.size + 1) (w.alloc o) wr) (o2 : Obj) : Below w.heap.size w (wr.alloc o2) := al (wrongB0 hb) o2
set_option maxHeartbeats 3200000 in
theorem wrongC (w : World) (p : Pk) (o d : Value) (h : IsPk w p o d) : Calls Tryd.prog 27 #[.agg (p.cs o d).toArray] w fun e w' => e = .returned (.int .i64 (mayI p)) ∧ Below w.heap.size w w' := by
  obtain ⟨M, hM⟩ : ∃ M, M = mayI p := ⟨_, rfl⟩
  have HM := Lib.hid hM
  rw [← hM]; clear hM
  have HB := Lib.hid (Blk.new w 26 (p.cs o d).toArray)
  have HH := Lib.hid h
  obtain ⟨⟨A, c, rfl, hb1, hc1⟩, ⟨B, e, rfl, hb2, hc2⟩, _, _, _, hn, hm⟩ := h
  unfold Pk.cs at HB ⊢
  go_enter Tryd.func27, Tryd.ntmps27
  go_wp2
  go_loopw [21] (fun i wr => ∃ k : Nat, k ≤ 5 ∧ i = .int .i64 k ∧ Hid (∀ j, j < k → 0 ≤ nthI p j ∧ nthI p j ≤ nthM j) ∧ Below (w.heap.size + 1) (w.alloc (.cells (p.cs (.slice A p.op.length c) (.slice B p.da.length e)).toArray 26)) wr) (fun i _ => 5 - (intOf i).toNat)
  case atStart => exact ⟨0, by omega, rfl, fun j h => by omega, Below.refl _ _⟩
  case round =>
    obtain ⟨k, hk, rfl, HK, hb⟩ := hrel
    obtain rfl | rfl | rfl | rfl | rfl | rfl : k = 0 ∨ k = 1 ∨ k = 2 ∨ k = 3 ∨ k = 4 ∨ k = 5 := by omega
    · have hi := fun w => idx5 p.sv p.lf p.pr p.id p.off 0 (by omega) 0 rfl _ _ rfl w
      by_cases a1 : p.sv < 0
      · have HN : Hid (M = 1) := by show _ = _; rw [HM.out, mayI, if_pos (by unfold bad1; omega)]
        go_wp2
        go_ret
        rw [HN.out]
        exact ⟨rfl, wrongB hb _⟩
      · by_cases a2 : 255 < p.sv
        · have HN : Hid (M = 1) := by show _ = _; rw [HM.out, mayI, if_pos (by unfold bad1; omega)]
          go_wp2
          go_ret
          rw [HN.out]
          exact ⟨rfl, wrongB hb _⟩
        · have HK2 : Hid (∀ j, j < 1 → 0 ≤ nthI p j ∧ nthI p j ≤ nthM j) := fun j hj => by
            by_cases h3 : j < 0
            · exact HK.out j h3
            · obtain rfl : j = 0 := by omega
              exact ⟨by show 0 ≤ p.sv; omega, by show p.sv ≤ 255; omega⟩
          clear HK
          go_wp2
          go_roundw
          case rel => exact ⟨1, by omega, by go_num, HK2.out, hb.alloc (by have := hb.size; simpa using this) _⟩
          case measure => simp [intOf]
    · have hi := fun w => idx5 p.sv p.lf p.pr p.id p.off 1 (by omega) 1 rfl _ _ rfl w
      by_cases a1 : p.lf < 0
      · have HN : Hid (M = 1) := by show _ = _; rw [HM.out, mayI, if_pos (by unfold bad1; omega)]
        go_wp2
        go_ret
        rw [HN.out]
        exact ⟨rfl, wrongB hb _⟩
      · by_cases a2 : 255 < p.lf
        · have HN : Hid (M = 1) := by show _ = _; rw [HM.out, mayI, if_pos (by unfold bad1; omega)]
          go_wp2
          go_ret
          rw [HN.out]
          exact ⟨rfl, wrongB hb _⟩
        · have HK2 : Hid (∀ j, j < 2 → 0 ≤ nthI p j ∧ nthI p j ≤ nthM j) := fun j hj => by
            by_cases h3 : j < 1
            · exact HK.out j h3
            · obtain rfl : j = 1 := by omega
              exact ⟨by show 0 ≤ p.lf; omega, by show p.lf ≤ 255; omega⟩
          clear HK
          go_wp2
          go_roundw
          case rel => exact ⟨2, by omega, by go_num, HK2.out, hb.alloc (by have := hb.size; simpa using this) _⟩
          case measure => simp [intOf]
    · have hi := fun w => idx5 p.sv p.lf p.pr p.id p.off 2 (by omega) 2 rfl _ _ rfl w
      by_cases a1 : p.pr < 0
      · have HN : Hid (M = 1) := by show _ = _; rw [HM.out, mayI, if_pos (by unfold bad1; omega)]
        go_wp2
        go_ret
        rw [HN.out]
        exact ⟨rfl, wrongB hb _⟩
      · by_cases a2 : 255 < p.pr
        · have HN : Hid (M = 1) := by show _ = _; rw [HM.out, mayI, if_pos (by unfold bad1; omega)]
          go_wp2
          go_ret
          rw [HN.out]
          exact ⟨rfl, wrongB hb _⟩
        · have HK2 : Hid (∀ j, j < 3 → 0 ≤ nthI p j ∧ nthI p j ≤ nthM j) := fun j hj => by
            by_cases h3 : j < 2
            · exact HK.out j h3
            · obtain rfl : j = 2 := by omega
              exact ⟨by show 0 ≤ p.pr; omega, by show p.pr ≤ 255; omega⟩
          clear HK
          go_wp2
          go_roundw
          case rel => exact ⟨3, by omega, by go_num, HK2.out, hb.alloc (by have := hb.size; simpa using this) _⟩
          case measure => simp [intOf]
    · have hi := fun w => idx5 p.sv p.lf p.pr p.id p.off 3 (by omega) 3 rfl _ _ rfl w
      by_cases a1 : p.id < 0
      · have HN : Hid (M = 1) := by show _ = _; rw [HM.out, mayI, if_pos (by unfold bad1; omega)]
        go_wp2
        go_ret
        rw [HN.out]
        exact ⟨rfl, wrongB hb _⟩
      · by_cases a2 : 65535 < p.id
        · have HN : Hid (M = 1) := by show _ = _; rw [HM.out, mayI, if_pos (by unfold bad1; omega)]
          go_wp2
          go_ret
          rw [HN.out]
          exact ⟨rfl, wrongB hb _⟩
        · have HK2 : Hid (∀ j, j < 4 → 0 ≤ nthI p j ∧ nthI p j ≤ nthM j) := fun j hj => by
            by_cases h3 : j < 3
            · exact HK.out j h3
            · obtain rfl : j = 3 := by omega
              exact ⟨by show 0 ≤ p.id; omega, by show p.id ≤ 65535; omega⟩
          clear HK
          go_wp2
          go_roundw
          case rel => exact ⟨4, by omega, by go_num, HK2.out, hb.alloc (by have := hb.size; simpa using this) _⟩
          case measure => simp [intOf]
    · have hi := fun w => idx5 p.sv p.lf p.pr p.id p.off 4 (by omega) 4 rfl _ _ rfl w
      by_cases a1 : p.off < 0
      · have HN : Hid (M = 1) := by show _ = _; rw [HM.out, mayI, if_pos (by unfold bad1; omega)]
        go_wp2
        go_ret
        rw [HN.out]
        exact ⟨rfl, wrongB hb _⟩
      · by_cases a2 : 65528 < p.off
        · have HN : Hid (M = 1) := by show _ = _; rw [HM.out, mayI, if_pos (by unfold bad1; omega)]
          go_wp2
          go_ret
          rw [HN.out]
          exact ⟨rfl, wrongB hb _⟩
        · have HK2 : Hid (∀ j, j < 5 → 0 ≤ nthI p j ∧ nthI p j ≤ nthM j) := fun j hj => by
            by_cases h3 : j < 4
            · exact HK.out j h3
            · obtain rfl : j = 4 := by omega
              exact ⟨by show 0 ≤ p.off; omega, by show p.off ≤ 65528; omega⟩
          clear HK
          go_wp2
          go_roundw
          case rel => exact ⟨5, by omega, by go_num, HK2.out, hb.alloc (by have := hb.size; simpa using this) _⟩
          case measure => simp [intOf]
    · have q0 := HK.out 0 (by omega)
      have q1 := HK.out 1 (by omega)
      have q2 := HK.out 2 (by omega)
      have q3 := HK.out 3 (by omega)
      have q4 := HK.out 4 (by omega)
      simp only [nthI, nthM] at q0 q1 q2 q3 q4
      have BW := Lib.hid (wrongB0 hb)
      have hbw := BW.out
      have HBW := Lib.hid (Blk.below HB.out hb (by omega))
      have c4 : wr.cell? ⟨w.heap.size, 4, none⟩ = some (.int .i64 p.off) := HBW.out.cell 4
      have c9 : wr.cell? ⟨w.heap.size, 9, none⟩ = some (.slice A p.op.length c) := HBW.out.cell 9
      by_cases a1 : p.off % 8 = 0
      · have y1 : (p.off % 8 != 0) = false := by rw [bne_eq_false_iff_eq]; exact a1
        have NB : Hid (¬ bad1 p) := by show ¬ _; unfold bad1; omega
        by_cases a2 : 40 < p.op.length
        · have HN : Hid (M = 3) := by show _ = _; rw [HM.out, mayI, if_neg NB.out, if_pos (.inl a2)]
          have y2 : (40 : Int) < p.op.length := by omega
          go_wp2
          go_ret
          rw [HN.out]
          exact ⟨rfl, BW.out⟩
        · have y2 : ¬ (40 : Int) < p.op.length := by omega
          have HGC := Lib.hid (goodC wr A p.op p.op.length c (hb1.nx BW.out) rfl hc1 (by omega))
          by_cases a3 : gd p.op 0 = false
          · have HN : Hid (M = 3) := by show _ = _; rw [HM.out, mayI, if_neg NB.out, if_pos (.inr a3)]
            rw [a3] at HGC
            go_wp2_with (go_at_call 49; refine HGC.out.mono ?_; rintro e w' ⟨rfl, rfl⟩)
            go_ret
            rw [HN.out]
            exact ⟨rfl, BW.out⟩
          · have a4 : gd p.op 0 = true := by cases h : gd p.op 0 <;> simp_all
            rw [a4] at HGC
            have HWC := Lib.hid (withinC wr p _ _ (HH.out.nx BW.out) q4.1 (by omega))
            by_cases a5 : inP p = false
            · have HN : Hid (M = 5) := by show _ = _; rw [HM.out, mayI, if_neg NB.out, if_neg (by rw [a4]; simpa using a2), if_pos a5]
              rw [a5] at HWC
              go_wp2_with (first
                | (go_at_call 49; refine HGC.out.mono ?_; rintro e w' ⟨rfl, rfl⟩)
                | (with_reducible refine wpList_load_blk rfl 26 1 rfl w.heap.size 0 11 (by kernel_rfl) 26 _ (p.cs (.slice A p.op.length c) (.slice B p.da.length e)) HBW.out (by kernel_rfl) _ Tryd.underlying26 (by kernel_rfl) (by kernel_rfl) ?_)
                | (go_at_call 50; refine HWC.out.mono ?_; rintro e w2 ⟨rfl, hb2⟩))
              go_ret
              rw [HN.out]
              exact ⟨rfl, nx BW.out hb2⟩
            · have HN : Hid (M = 0) := by show _ = _; rw [HM.out, mayI, if_neg NB.out, if_neg (by rw [a4]; simpa using a2), if_neg a5]
              have a6 : inP p = true := by cases h : inP p <;> simp_all
              rw [a6] at HWC
              go_wp2_with (first
                | (go_at_call 49; refine HGC.out.mono ?_; rintro e w' ⟨rfl, rfl⟩)
                | (with_reducible refine wpList_load_blk rfl 26 1 rfl w.heap.size 0 11 (by kernel_rfl) 26 _ (p.cs (.slice A p.op.length c) (.slice B p.da.length e)) HBW.out (by kernel_rfl) _ Tryd.underlying26 (by kernel_rfl) (by kernel_rfl) ?_)
                | (go_at_call 50; refine HWC.out.mono ?_; rintro e w2 ⟨rfl, hb2⟩))
              go_ret
              rw [HN.out]
              exact ⟨rfl, nx BW.out hb2⟩
      · have y1 : (p.off % 8 != 0) = true := by rw [bne_iff_ne]; exact a1
        have HN : Hid (M = 1) := by show _ = _; rw [HM.out, mayI, if_pos (by unfold bad1; omega)]
        go_wp2
        go_ret
        rw [HN.out]
        exact ⟨rfl, BW.out⟩
end Go.Proofs.YthjpdaflgphbbaaDoor
