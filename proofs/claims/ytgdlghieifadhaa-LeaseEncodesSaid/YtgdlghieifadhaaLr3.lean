/-
  The reference's client of a lease: it is given a lease, and gives it back.
-/
import Derived.Test.YtgdlghieifadhaaLr2
import Derived.Test.YtgdlghieifadhaaLs4
set_option linter.unusedVariables false
namespace Go.Proofs.Ytgdlghieifadhaa
open Go.RowKit

def relR (s : St) : St := { s with st := 0, lease := zeroL }
set_option maxHeartbeats 800000 in
theorem releaseF (b : Nat) (mac : M6) (s : St) (w : World) (h : IsRf w b mac s) :
    Calls Try.prog 23 #[.pointer (some ⟨b, 0, none⟩)] w fun e w' => DoesR w w' b mac (relR s) (relO mac s) e := by
  have c6 : w.cell? ⟨b, 6, none⟩ = some (.int .i64 s.st) := h.cell 6
  have f6 := Blk.frozen h 6
  have hlt := Blk.lt h
  have H1 := Lib.hid (h.set 6 (.int .i64 0) { s with st := 0 } rfl)
  have H1a := Lib.hid (Blk.alloc H1.out (.cells #[.int .i64 0, .int .u32 0, .int .u32 0, .int .u8 0, .int .u8 0, .int .u8 0, .int .u8 0, .int .u8 0, .int .u8 0, .int .i64 0, .int .u32 0, .int .u32 0, .int .i64 0, .int .u32 0, .int .u32 0, .int .u32 0] 27))
  have g1 : w.grownBy ((w.setCell ⟨b, 6, none⟩ (.int .i64 0)).alloc (.cells #[.int .i64 0, .int .u32 0, .int .u32 0, .int .u8 0, .int .u8 0, .int .u8 0, .int .u8 0, .int .u8 0, .int .u8 0, .int .i64 0, .int .u32 0, .int .u32 0, .int .i64 0, .int .u32 0, .int .u32 0, .int .u32 0] 27)) (some b) := only_alloc (only_setCell (p := ⟨b, 6, none⟩) (World.grownBy.refl _ _) (.inl rfl) _) _
  have G1 := Lib.hid g1; clear g1
  have Z1 := Lib.hid (show Blk ((w.setCell ⟨b, 6, none⟩ (.int .i64 0)).alloc (.cells #[.int .i64 0, .int .u32 0, .int .u32 0, .int .u8 0, .int .u8 0, .int .u8 0, .int .u8 0, .int .u8 0, .int .u8 0, .int .i64 0, .int .u32 0, .int .u32 0, .int .i64 0, .int .u32 0, .int .u32 0, .int .u32 0] 27)) w.heap.size 27 zeroL.cs.toArray from blk_at _ _ _ (by simp))
  unfold relO
  by_cases h3 : 3 ≤ s.st
  · rw [if_pos h3]
    have hd : decide (3 ≤ s.st) = true := by simpa using h3
    go_enter Try.func23, Try.ntmps23
    go_wp2_with (first
      | (with_reducible refine wpList_load_blk rfl 27 15 rfl b 26 16 (by kernel_rfl) 46 _ s.lease.cs H1.out (by kernel_rfl) _ Try.underlying27 (by kernel_rfl) (by kernel_rfl) ?_)
      | ((with_reducible refine wpList_store_blk rfl 27 4 16 rfl w.heap.size 0 s.lease.cs (by kernel_rfl) (by kernel_rfl) 27 zeroL.cs Z1.out (by rw [Ls.len, Ls.len]; decide) (by kernel_rfl) s.lease.one ?_); intro w3 hB3 g3; have B3 := Lib.hid (Blk.eq_ (cs' := s.lease.cs.toArray) hB3 (by kernel_rfl)); have H3 := Lib.hid (Blk.only H1a.out g3 (by omega)); clear hB3)
      | ((with_reducible refine wpList_store_blk rfl 27 20 18 rfl b 26 zeroL.cs (by kernel_rfl) (by kernel_rfl) 46 _ H3.out (by rw [rfCs_len]; decide) (by kernel_rfl) zeroL.one ?_); intro w4 hB4 g4; have H4 := Lib.hid (IsRf.lay (relR s) hB4 rfl); have B4 := Blk.only B3.out g4 (by omega); clear hB4; have k2 : w4.cell? ⟨w.heap.size, 2, none⟩ = some (.int .u32 s.lease.yours) := B4.cell 2; have k10 : w4.cell? ⟨w.heap.size, 10, none⟩ = some (.int .u32 s.lease.server) := B4.cell 10))
    refine (sendsF b mac _ _ _ _ _ H4.out).mono ?_
    rintro e w5 ⟨v, rfl, hm, hb⟩
    go_wp2
    go_ret
    have z3 := g3.size
    have g13 : w.grownBy w3 (some b) := ⟨g3.os.trans G1.out.os, g3.tape.trans G1.out.tape, g3.output.trans G1.out.output, Nat.le_trans G1.out.size g3.size, fun i hi hne => (g3.block i (Nat.lt_of_lt_of_le hi G1.out.size) (by intro e; injection e with e; omega)).trans (G1.out.block i hi hne)⟩
    have g14 := only_trans g13 g4
    exact ⟨v, rfl, hm.more g14.size, H4.out.nx hb, only_nx g14 hb⟩
  · rw [if_neg h3]
    have hd : decide (3 ≤ s.st) = false := by simpa using h3
    go_enter Try.func23, Try.ntmps23
    go_wp2_with (first
      | (with_reducible refine wpList_load_blk rfl 27 15 rfl b 26 16 (by kernel_rfl) 46 _ s.lease.cs H1.out (by kernel_rfl) _ Try.underlying27 (by kernel_rfl) (by kernel_rfl) ?_)
      | ((with_reducible refine wpList_store_blk rfl 27 4 16 rfl w.heap.size 0 s.lease.cs (by kernel_rfl) (by kernel_rfl) 27 zeroL.cs Z1.out (by rw [Ls.len, Ls.len]; decide) (by kernel_rfl) s.lease.one ?_); intro w3 hB3 g3; have H3 := Lib.hid (Blk.only H1a.out g3 (by omega)); clear hB3)
      | ((with_reducible refine wpList_store_blk rfl 27 20 18 rfl b 26 zeroL.cs (by kernel_rfl) (by kernel_rfl) 46 _ H3.out (by rw [rfCs_len]; decide) (by kernel_rfl) zeroL.one ?_); intro w4 hB4 g4; have H4 := Lib.hid (IsRf.lay (relR s) hB4 rfl); clear hB4))
    go_ret
    have g13 : w.grownBy w3 (some b) := ⟨g3.os.trans G1.out.os, g3.tape.trans G1.out.tape, g3.output.trans G1.out.output, Nat.le_trans G1.out.size g3.size, fun i hi hne => (g3.block i (Nat.lt_of_lt_of_le hi G1.out.size) (by intro e; injection e with e; omega)).trans (G1.out.block i hi hne)⟩
    exact ⟨_, rfl, rfl, H4.out, only_trans g13 g4⟩
end Go.Proofs.Ytgdlghieifadhaa
