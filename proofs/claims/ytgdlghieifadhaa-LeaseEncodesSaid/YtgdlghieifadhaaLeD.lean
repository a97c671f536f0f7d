/-
  Lease: the reader over what a message is written as, and what an option tells. Printed by gen_led.py.
-/
import Derived.Test.YtgdlghieifadhaaOctRd
import Derived.Test.YtgdlghieifadhaaLeQ
set_option linter.unusedVariables false
namespace Go.Proofs.Ytgdlghieifadhaa
open Go.RowKit

theorem beN_beB1 (v : Int) (h0 : 0 ≤ v) (h1 : v ≤ 255) : (beN (beB v.toNat 1) : Int) = v := by
  simp only [beN, beB, List.foldl_cons, List.foldl_nil, UInt8.toNat_ofNat', Nat.reducePow]
  omega
theorem beN_beB4 (v : Int) (h0 : 0 ≤ v) (h1 : v ≤ 4294967295) : (beN (beB v.toNat 4) : Int) = v := by
  simp only [beN, beB, List.foldl_cons, List.foldl_nil, UInt8.toNat_ofNat', Nat.reducePow]
  omega
theorem rd_app (p l : List UInt8) (m : Int) (hm : m = p.length) : rdN (p ++ l) 0 m = (p, l, 0) := by
  subst hm
  unfold rdN
  rw [if_neg (by rw [List.length_append]; omega), Int.toNat_natCast, List.take_left, List.drop_left]
set_option maxHeartbeats 400000 in
theorem le_rb1 (w : World) (b : Nat) (v : Int) (l : List UInt8) (h : IsR w b (beB v.toNat 1 ++ l) 0) (h0 : 0 ≤ v) (h1 : v ≤ 255) :
    Calls Try.prog 53 #[.pointer (some ⟨b, 0, none⟩)] w fun e w' => e = .returned (.int .i64 v) ∧ IsR w' b l 0 ∧ w.grownBy w' (some b) := by
  have HC := Lib.hid (fun V (hV : IsR V b (beB v.toNat 1 ++ l) 0) => rnumber V b (beB v.toNat 1 ++ l) 0 1 hV (.inl rfl) (by omega))
  rw [show ((1 : Nat) : Int) = 1 from rfl, rd_app _ _ 1 (by rw [beB_len]; rfl), beN_beB1 v h0 h1] at HC
  go_enter Try.func53, Try.ntmps53
  go_wp2_with fail
  refine (HC.out _ h).mono ?_
  rintro e w1 ⟨rfl, h2, h3⟩
  go_wp2
  go_ret
  exact ⟨rfl, h2, h3⟩
set_option maxHeartbeats 400000 in
theorem le_rb4 (w : World) (b : Nat) (v : Int) (l : List UInt8) (h : IsR w b (beB v.toNat 4 ++ l) 0) (h0 : 0 ≤ v) (h1 : v ≤ 4294967295) :
    Calls Try.prog 54 #[.pointer (some ⟨b, 0, none⟩)] w fun e w' => e = .returned (.int .u32 v) ∧ IsR w' b l 0 ∧ w.grownBy w' (some b) := by
  have HC := Lib.hid (fun V (hV : IsR V b (beB v.toNat 4 ++ l) 0) => rnumber V b (beB v.toNat 4 ++ l) 0 4 hV (.inl rfl) (by omega))
  rw [show ((4 : Nat) : Int) = 4 from rfl, rd_app _ _ 4 (by rw [beB_len]; rfl), beN_beB4 v h0 h1] at HC
  go_enter Try.func54, Try.ntmps54
  go_wp2_with fail
  refine (HC.out _ h).mono ?_
  rintro e w1 ⟨rfl, h2, h3⟩
  go_wp2
  go_ret
  exact ⟨rfl, h2, h3⟩
theorem le_rbr (w : World) (b : Nat) (p l : List UInt8) (x : Int) (h : IsR w b (p ++ l) 0) (hx : x = p.length) :
    Calls Try.prog 55 #[.pointer (some ⟨b, 0, none⟩), .int .i64 x] w fun e w' => ∃ A c, e = .returned (.slice A p.length c) ∧ w'.ownsRow w.heap.size 5 1 (.slice A p.length c) p.length (Lib.byteCells p) ∧ IsR w' b l 0 ∧ w.grownBy w' (some b) := by
  have hc := rraw w b (p ++ l) 0 x h (.inl rfl)
  rw [rd_app p l x hx] at hc
  refine hc.mono ?_
  rintro e w' ⟨v, rfl, own, r, g⟩
  obtain ⟨A, c, rfl⟩ := own_slice own
  exact ⟨A, c, rfl, own, r, g⟩
def setO (m : Ls) (k v : Int) : Ls := if k = 53 then { m with ty := v } else if k = 54 then { m with server := v } else if k = 50 then { m with asked := v } else if k = 51 then { m with time := v } else if k = 1 then { m with mask := v } else if k = 3 then { m with router := v } else if k = 6 then { m with resolver := v } else m
def OkE (k v : Int) (n : Nat) : Prop := (k = 53 ∧ n = 1 ∧ 0 ≤ v ∧ v ≤ 255) ∨ ((k = 54 ∨ k = 50 ∨ k = 1 ∨ k = 3 ∨ k = 6) ∧ n = 4 ∧ 0 ≤ v ∧ v ≤ 4294967295) ∨ (k = 51 ∧ n = 4 ∧ 0 ≤ v ∧ v ≤ 2147483647)
set_option maxHeartbeats 400000 in
theorem opt53 (w : World) (g : Nat) (M : Ls) (v : Int) (A : Option Addr) (c : Nat) (hb : Blk w g 27 M.cs.toArray) (hr : Bytes w A (beB v.toNat 1)) (h0 : 0 ≤ v) (h1 : v ≤ 255) :
    Calls Try.prog 57 #[.pointer (some ⟨g, 0, none⟩), .int .i64 53, .slice A 1 c] w fun e w' => e = .returned (.tuple #[]) ∧ Blk w' g 27 ({ M with ty := v } : Ls).cs.toArray ∧ w.grownBy w' (some g) := by
  have HR := Lib.hid hr
  have HB := Lib.hid hb
  have hlt := hb.lt
  clear hr hb
  go_enter Try.func57, Try.ntmps57
  go_wp2_with fail
  refine (newReader _ A (beB v.toNat 1) 1 c HR.out (by rw [beB_len]) (by rw [beB_len]; omega)).mono ?_
  rintro e w1 ⟨b, rfl, hbb, r1, bel1⟩
  have R1 := Lib.hid (show IsR w1 b (beB v.toNat 1 ++ []) 0 by rw [List.append_nil]; exact r1)
  have B1 := Lib.hid (HB.out.nx bel1)
  have BE := Lib.hid bel1
  have hne : g ≠ b := by omega
  have HNE := Lib.hid hne
  have z1 := bel1.size
  clear r1 bel1 hne
  go_wp2_with fail
  refine (le_rb1 _ b v [] R1.out h0 (by omega)).mono ?_
  rintro e w2 ⟨rfl, r2, g2⟩
  have B2 := B1.out.only g2 HNE.out
  have hlt2 := B2.lt
  have hf := B2.frozen 9
  have G := Lib.hid (show World.grownBy w (w2.setCell ⟨g, 9, none⟩ (.int .i64 v)) (some g) from only_setCell (p := ⟨g, 9, none⟩) (only_of (BE.out.trans (below_only g2 hbb z1))) (.inl rfl) _)
  have HB2 := Lib.hid (show Blk (w2.setCell ⟨g, 9, none⟩ (.int .i64 v)) g 27 ({ M with ty := v } : Ls).cs.toArray from B2.set_ 9 (.int .i64 v))
  have hc := B2.cell 9
  simp only [Ls.cs, List.getElem?_toArray, List.getElem?_cons_zero, List.getElem?_cons_succ] at hc
  clear r2 g2 B2
  go_wp2
  go_end0
  exact ⟨rfl, HB2.out, G.out⟩
set_option maxHeartbeats 400000 in
theorem opt54 (w : World) (g : Nat) (M : Ls) (v : Int) (A : Option Addr) (c : Nat) (hb : Blk w g 27 M.cs.toArray) (hr : Bytes w A (beB v.toNat 4)) (h0 : 0 ≤ v) (h1 : v ≤ 4294967295) :
    Calls Try.prog 57 #[.pointer (some ⟨g, 0, none⟩), .int .i64 54, .slice A 4 c] w fun e w' => e = .returned (.tuple #[]) ∧ Blk w' g 27 ({ M with server := v } : Ls).cs.toArray ∧ w.grownBy w' (some g) := by
  have HR := Lib.hid hr
  have HB := Lib.hid hb
  have hlt := hb.lt
  clear hr hb
  go_enter Try.func57, Try.ntmps57
  go_wp2_with fail
  refine (newReader _ A (beB v.toNat 4) 4 c HR.out (by rw [beB_len]) (by rw [beB_len]; omega)).mono ?_
  rintro e w1 ⟨b, rfl, hbb, r1, bel1⟩
  have R1 := Lib.hid (show IsR w1 b (beB v.toNat 4 ++ []) 0 by rw [List.append_nil]; exact r1)
  have B1 := Lib.hid (HB.out.nx bel1)
  have BE := Lib.hid bel1
  have hne : g ≠ b := by omega
  have HNE := Lib.hid hne
  have z1 := bel1.size
  clear r1 bel1 hne
  go_wp2_with fail
  refine (le_rb4 _ b v [] R1.out h0 (by omega)).mono ?_
  rintro e w2 ⟨rfl, r2, g2⟩
  have B2 := B1.out.only g2 HNE.out
  have hlt2 := B2.lt
  have hf := B2.frozen 10
  have G := Lib.hid (show World.grownBy w (w2.setCell ⟨g, 10, none⟩ (.int .u32 v)) (some g) from only_setCell (p := ⟨g, 10, none⟩) (only_of (BE.out.trans (below_only g2 hbb z1))) (.inl rfl) _)
  have HB2 := Lib.hid (show Blk (w2.setCell ⟨g, 10, none⟩ (.int .u32 v)) g 27 ({ M with server := v } : Ls).cs.toArray from B2.set_ 10 (.int .u32 v))
  have hc := B2.cell 10
  simp only [Ls.cs, List.getElem?_toArray, List.getElem?_cons_zero, List.getElem?_cons_succ] at hc
  clear r2 g2 B2
  go_wp2
  go_end0
  exact ⟨rfl, HB2.out, G.out⟩
set_option maxHeartbeats 400000 in
theorem opt50 (w : World) (g : Nat) (M : Ls) (v : Int) (A : Option Addr) (c : Nat) (hb : Blk w g 27 M.cs.toArray) (hr : Bytes w A (beB v.toNat 4)) (h0 : 0 ≤ v) (h1 : v ≤ 4294967295) :
    Calls Try.prog 57 #[.pointer (some ⟨g, 0, none⟩), .int .i64 50, .slice A 4 c] w fun e w' => e = .returned (.tuple #[]) ∧ Blk w' g 27 ({ M with asked := v } : Ls).cs.toArray ∧ w.grownBy w' (some g) := by
  have HR := Lib.hid hr
  have HB := Lib.hid hb
  have hlt := hb.lt
  clear hr hb
  go_enter Try.func57, Try.ntmps57
  go_wp2_with fail
  refine (newReader _ A (beB v.toNat 4) 4 c HR.out (by rw [beB_len]) (by rw [beB_len]; omega)).mono ?_
  rintro e w1 ⟨b, rfl, hbb, r1, bel1⟩
  have R1 := Lib.hid (show IsR w1 b (beB v.toNat 4 ++ []) 0 by rw [List.append_nil]; exact r1)
  have B1 := Lib.hid (HB.out.nx bel1)
  have BE := Lib.hid bel1
  have hne : g ≠ b := by omega
  have HNE := Lib.hid hne
  have z1 := bel1.size
  clear r1 bel1 hne
  go_wp2_with fail
  refine (le_rb4 _ b v [] R1.out h0 (by omega)).mono ?_
  rintro e w2 ⟨rfl, r2, g2⟩
  have B2 := B1.out.only g2 HNE.out
  have hlt2 := B2.lt
  have hf := B2.frozen 11
  have G := Lib.hid (show World.grownBy w (w2.setCell ⟨g, 11, none⟩ (.int .u32 v)) (some g) from only_setCell (p := ⟨g, 11, none⟩) (only_of (BE.out.trans (below_only g2 hbb z1))) (.inl rfl) _)
  have HB2 := Lib.hid (show Blk (w2.setCell ⟨g, 11, none⟩ (.int .u32 v)) g 27 ({ M with asked := v } : Ls).cs.toArray from B2.set_ 11 (.int .u32 v))
  have hc := B2.cell 11
  simp only [Ls.cs, List.getElem?_toArray, List.getElem?_cons_zero, List.getElem?_cons_succ] at hc
  clear r2 g2 B2
  go_wp2
  go_end0
  exact ⟨rfl, HB2.out, G.out⟩
set_option maxHeartbeats 400000 in
theorem opt51 (w : World) (g : Nat) (M : Ls) (v : Int) (A : Option Addr) (c : Nat) (hb : Blk w g 27 M.cs.toArray) (hr : Bytes w A (beB v.toNat 4)) (h0 : 0 ≤ v) (h1 : v ≤ 2147483647) :
    Calls Try.prog 57 #[.pointer (some ⟨g, 0, none⟩), .int .i64 51, .slice A 4 c] w fun e w' => e = .returned (.tuple #[]) ∧ Blk w' g 27 ({ M with time := v } : Ls).cs.toArray ∧ w.grownBy w' (some g) := by
  have HR := Lib.hid hr
  have HB := Lib.hid hb
  have hlt := hb.lt
  clear hr hb
  go_enter Try.func57, Try.ntmps57
  go_wp2_with fail
  refine (newReader _ A (beB v.toNat 4) 4 c HR.out (by rw [beB_len]) (by rw [beB_len]; omega)).mono ?_
  rintro e w1 ⟨b, rfl, hbb, r1, bel1⟩
  have R1 := Lib.hid (show IsR w1 b (beB v.toNat 4 ++ []) 0 by rw [List.append_nil]; exact r1)
  have B1 := Lib.hid (HB.out.nx bel1)
  have BE := Lib.hid bel1
  have hne : g ≠ b := by omega
  have HNE := Lib.hid hne
  have z1 := bel1.size
  clear r1 bel1 hne
  go_wp2_with fail
  refine (le_rb4 _ b v [] R1.out h0 (by omega)).mono ?_
  rintro e w2 ⟨rfl, r2, g2⟩
  have B2 := B1.out.only g2 HNE.out
  have hlt2 := B2.lt
  have hf := B2.frozen 12
  have G := Lib.hid (show World.grownBy w (w2.setCell ⟨g, 12, none⟩ (.int .i64 v)) (some g) from only_setCell (p := ⟨g, 12, none⟩) (only_of (BE.out.trans (below_only g2 hbb z1))) (.inl rfl) _)
  have HB2 := Lib.hid (show Blk (w2.setCell ⟨g, 12, none⟩ (.int .i64 v)) g 27 ({ M with time := v } : Ls).cs.toArray from B2.set_ 12 (.int .i64 v))
  have hc := B2.cell 12
  simp only [Ls.cs, List.getElem?_toArray, List.getElem?_cons_zero, List.getElem?_cons_succ] at hc
  clear r2 g2 B2 ; have hmin : min v 2147483647 = v := Int.min_eq_left h1
  go_wp2
  go_end0
  exact ⟨rfl, HB2.out, G.out⟩
set_option maxHeartbeats 400000 in
theorem opt1 (w : World) (g : Nat) (M : Ls) (v : Int) (A : Option Addr) (c : Nat) (hb : Blk w g 27 M.cs.toArray) (hr : Bytes w A (beB v.toNat 4)) (h0 : 0 ≤ v) (h1 : v ≤ 4294967295) :
    Calls Try.prog 57 #[.pointer (some ⟨g, 0, none⟩), .int .i64 1, .slice A 4 c] w fun e w' => e = .returned (.tuple #[]) ∧ Blk w' g 27 ({ M with mask := v } : Ls).cs.toArray ∧ w.grownBy w' (some g) := by
  have HR := Lib.hid hr
  have HB := Lib.hid hb
  have hlt := hb.lt
  clear hr hb
  go_enter Try.func57, Try.ntmps57
  go_wp2_with fail
  refine (newReader _ A (beB v.toNat 4) 4 c HR.out (by rw [beB_len]) (by rw [beB_len]; omega)).mono ?_
  rintro e w1 ⟨b, rfl, hbb, r1, bel1⟩
  have R1 := Lib.hid (show IsR w1 b (beB v.toNat 4 ++ []) 0 by rw [List.append_nil]; exact r1)
  have B1 := Lib.hid (HB.out.nx bel1)
  have BE := Lib.hid bel1
  have hne : g ≠ b := by omega
  have HNE := Lib.hid hne
  have z1 := bel1.size
  clear r1 bel1 hne
  go_wp2_with fail
  refine (le_rb4 _ b v [] R1.out h0 (by omega)).mono ?_
  rintro e w2 ⟨rfl, r2, g2⟩
  have B2 := B1.out.only g2 HNE.out
  have hlt2 := B2.lt
  have hf := B2.frozen 13
  have G := Lib.hid (show World.grownBy w (w2.setCell ⟨g, 13, none⟩ (.int .u32 v)) (some g) from only_setCell (p := ⟨g, 13, none⟩) (only_of (BE.out.trans (below_only g2 hbb z1))) (.inl rfl) _)
  have HB2 := Lib.hid (show Blk (w2.setCell ⟨g, 13, none⟩ (.int .u32 v)) g 27 ({ M with mask := v } : Ls).cs.toArray from B2.set_ 13 (.int .u32 v))
  have hc := B2.cell 13
  simp only [Ls.cs, List.getElem?_toArray, List.getElem?_cons_zero, List.getElem?_cons_succ] at hc
  clear r2 g2 B2
  go_wp2
  go_end0
  exact ⟨rfl, HB2.out, G.out⟩
set_option maxHeartbeats 400000 in
theorem opt3 (w : World) (g : Nat) (M : Ls) (v : Int) (A : Option Addr) (c : Nat) (hb : Blk w g 27 M.cs.toArray) (hr : Bytes w A (beB v.toNat 4)) (h0 : 0 ≤ v) (h1 : v ≤ 4294967295) :
    Calls Try.prog 57 #[.pointer (some ⟨g, 0, none⟩), .int .i64 3, .slice A 4 c] w fun e w' => e = .returned (.tuple #[]) ∧ Blk w' g 27 ({ M with router := v } : Ls).cs.toArray ∧ w.grownBy w' (some g) := by
  have HR := Lib.hid hr
  have HB := Lib.hid hb
  have hlt := hb.lt
  clear hr hb
  go_enter Try.func57, Try.ntmps57
  go_wp2_with fail
  refine (newReader _ A (beB v.toNat 4) 4 c HR.out (by rw [beB_len]) (by rw [beB_len]; omega)).mono ?_
  rintro e w1 ⟨b, rfl, hbb, r1, bel1⟩
  have R1 := Lib.hid (show IsR w1 b (beB v.toNat 4 ++ []) 0 by rw [List.append_nil]; exact r1)
  have B1 := Lib.hid (HB.out.nx bel1)
  have BE := Lib.hid bel1
  have hne : g ≠ b := by omega
  have HNE := Lib.hid hne
  have z1 := bel1.size
  clear r1 bel1 hne
  go_wp2_with fail
  refine (le_rb4 _ b v [] R1.out h0 (by omega)).mono ?_
  rintro e w2 ⟨rfl, r2, g2⟩
  have B2 := B1.out.only g2 HNE.out
  have hlt2 := B2.lt
  have hf := B2.frozen 14
  have G := Lib.hid (show World.grownBy w (w2.setCell ⟨g, 14, none⟩ (.int .u32 v)) (some g) from only_setCell (p := ⟨g, 14, none⟩) (only_of (BE.out.trans (below_only g2 hbb z1))) (.inl rfl) _)
  have HB2 := Lib.hid (show Blk (w2.setCell ⟨g, 14, none⟩ (.int .u32 v)) g 27 ({ M with router := v } : Ls).cs.toArray from B2.set_ 14 (.int .u32 v))
  have hc := B2.cell 14
  simp only [Ls.cs, List.getElem?_toArray, List.getElem?_cons_zero, List.getElem?_cons_succ] at hc
  clear r2 g2 B2
  go_wp2
  go_end0
  exact ⟨rfl, HB2.out, G.out⟩
set_option maxHeartbeats 400000 in
theorem opt6 (w : World) (g : Nat) (M : Ls) (v : Int) (A : Option Addr) (c : Nat) (hb : Blk w g 27 M.cs.toArray) (hr : Bytes w A (beB v.toNat 4)) (h0 : 0 ≤ v) (h1 : v ≤ 4294967295) :
    Calls Try.prog 57 #[.pointer (some ⟨g, 0, none⟩), .int .i64 6, .slice A 4 c] w fun e w' => e = .returned (.tuple #[]) ∧ Blk w' g 27 ({ M with resolver := v } : Ls).cs.toArray ∧ w.grownBy w' (some g) := by
  have HR := Lib.hid hr
  have HB := Lib.hid hb
  have hlt := hb.lt
  clear hr hb
  go_enter Try.func57, Try.ntmps57
  go_wp2_with fail
  refine (newReader _ A (beB v.toNat 4) 4 c HR.out (by rw [beB_len]) (by rw [beB_len]; omega)).mono ?_
  rintro e w1 ⟨b, rfl, hbb, r1, bel1⟩
  have R1 := Lib.hid (show IsR w1 b (beB v.toNat 4 ++ []) 0 by rw [List.append_nil]; exact r1)
  have B1 := Lib.hid (HB.out.nx bel1)
  have BE := Lib.hid bel1
  have hne : g ≠ b := by omega
  have HNE := Lib.hid hne
  have z1 := bel1.size
  clear r1 bel1 hne
  go_wp2_with fail
  refine (le_rb4 _ b v [] R1.out h0 (by omega)).mono ?_
  rintro e w2 ⟨rfl, r2, g2⟩
  have B2 := B1.out.only g2 HNE.out
  have hlt2 := B2.lt
  have hf := B2.frozen 15
  have G := Lib.hid (show World.grownBy w (w2.setCell ⟨g, 15, none⟩ (.int .u32 v)) (some g) from only_setCell (p := ⟨g, 15, none⟩) (only_of (BE.out.trans (below_only g2 hbb z1))) (.inl rfl) _)
  have HB2 := Lib.hid (show Blk (w2.setCell ⟨g, 15, none⟩ (.int .u32 v)) g 27 ({ M with resolver := v } : Ls).cs.toArray from B2.set_ 15 (.int .u32 v))
  have hc := B2.cell 15
  simp only [Ls.cs, List.getElem?_toArray, List.getElem?_cons_zero, List.getElem?_cons_succ] at hc
  clear r2 g2 B2
  go_wp2
  go_end0
  exact ⟨rfl, HB2.out, G.out⟩
theorem optC (w : World) (g : Nat) (M : Ls) (k v : Int) (n : Nat) (A : Option Addr) (c : Nat) (hb : Blk w g 27 M.cs.toArray) (hr : Bytes w A (beB v.toNat n)) (hk : OkE k v n) :
    Calls Try.prog 57 #[.pointer (some ⟨g, 0, none⟩), .int .i64 k, .slice A n c] w fun e w' => e = .returned (.tuple #[]) ∧ Blk w' g 27 (setO M k v).cs.toArray ∧ w.grownBy w' (some g) := by
  rcases hk with ⟨rfl, rfl, h0, h1⟩ | ⟨rfl | rfl | rfl | rfl | rfl, rfl, h0, h1⟩ | ⟨rfl, rfl, h0, h1⟩
  · exact opt53 w g M v A c hb hr h0 h1
  · exact opt54 w g M v A c hb hr h0 h1
  · exact opt50 w g M v A c hb hr h0 h1
  · exact opt1 w g M v A c hb hr h0 h1
  · exact opt3 w g M v A c hb hr h0 h1
  · exact opt6 w g M v A c hb hr h0 h1
  · exact opt51 w g M v A c hb hr h0 h1
end Go.Proofs.Ytgdlghieifadhaa
