/-
  The reference's client of a lease: Start, Has, Release.
-/
import Derived.Test.YtgdlghieifadhaaLr
set_option linter.unusedVariables false
namespace Go.Proofs.Ytgdlghieifadhaa
open Go.RowKit

theorem DoesR.none_ {w : World} {b : Nat} {mac : M6} {s : St} (h : IsRf w b mac s) : DoesR w w b mac s none (.returned (.slice none 0 0)) := ⟨_, rfl, rfl, h, World.grownBy.refl _ _⟩
def startR (s : St) (now draw : Int) : St := if s.st = 0 then beginF s now draw else s
set_option maxHeartbeats 400000 in
theorem startF (b : Nat) (mac : M6) (s : St) (now draw : Int) (w : World) (h : IsRf w b mac s) (h0 : 0 ≤ now) (h1 : now ≤ 1152921504606846976) :
    Calls Try.prog 20 #[.pointer (some ⟨b, 0, none⟩), .int .i64 now, .int .i64 draw] w fun e w' => DoesR w w' b mac (startR s now draw) (startO mac s now draw) e := by
  have c6 : w.cell? ⟨b, 6, none⟩ = some (.int .i64 s.st) := h.cell 6
  unfold startR startO
  by_cases hs : s.st = 0
  · rw [if_pos hs, if_pos hs]
    have q1 : ((s.st : Int) != 0) = false := by rw [bne_eq_false_iff_eq]; exact hs
    clear hs
    go_enter Try.func20, Try.ntmps20
    go_wp2_with fail
    refine (beginF_ b mac s now draw _ h h0 h1).mono ?_
    rintro e w1 ⟨v, rfl, hd⟩
    go_wp2
    go_ret
    exact ⟨v, rfl, hd⟩
  · rw [if_neg hs, if_neg hs]
    have q1 : ((s.st : Int) != 0) = true := by rw [bne_iff_ne]; exact hs
    clear hs
    go_enter Try.func20, Try.ntmps20
    go_wp2
    go_ret
    exact DoesR.none_ h
set_option maxHeartbeats 400000 in
theorem hasF (b : Nat) (mac : M6) (s : St) (w : World) (h : IsRf w b mac s) :
    Calls Try.prog 24 #[.pointer (some ⟨b, 0, none⟩)] w fun e w' => e = .returned (.tuple #[.agg (leaseV s).cs.toArray, .bool (decide (3 ≤ s.st))]) ∧ Below w.heap.size w w' := by
  have R2 : Blk (w.alloc (.cells #[.int .i64 0, .int .u32 0, .int .u32 0, .int .u8 0, .int .u8 0, .int .u8 0, .int .u8 0, .int .u8 0, .int .u8 0, .int .i64 0, .int .u32 0, .int .u32 0, .int .i64 0, .int .u32 0, .int .u32 0, .int .u32 0] 27)) w.heap.size 27 zeroL.cs.toArray := Blk.new _ _ _
  have HR := Lib.hid R2; clear R2
  have H' := Lib.hid (h.nx (al (rf w) (.cells #[.int .i64 0, .int .u32 0, .int .u32 0, .int .u8 0, .int .u8 0, .int .u8 0, .int .u8 0, .int .u8 0, .int .u8 0, .int .i64 0, .int .u32 0, .int .u32 0, .int .i64 0, .int .u32 0, .int .u32 0, .int .u32 0] 27)))
  have bw : Below w.heap.size w (w.alloc (.cells #[.int .i64 0, .int .u32 0, .int .u32 0, .int .u8 0, .int .u8 0, .int .u8 0, .int .u8 0, .int .u8 0, .int .u8 0, .int .i64 0, .int .u32 0, .int .u32 0, .int .i64 0, .int .u32 0, .int .u32 0, .int .u32 0] 27)) := al (rf w) _
  have c6 : w.cell? ⟨b, 6, none⟩ = some (.int .i64 s.st) := h.cell 6
  have hne := World.new_ne w _ c6
  have hlt := Blk.lt h
  unfold leaseV
  by_cases h3 : 3 ≤ s.st
  · rw [if_pos h3]
    have h4 : ¬ s.st < 3 := by omega
    have hd : decide (3 ≤ s.st) = true := by simpa using h3
    rw [hd]
    go_enter Try.func24, Try.ntmps24
    go_wp2_with (first
      | (with_reducible refine wpList_load_blk rfl 27 13 rfl b 26 16 (by kernel_rfl) 46 _ s.lease.cs H'.out (by kernel_rfl) _ Try.underlying27 (by kernel_rfl) (by kernel_rfl) ?_)
      | (with_reducible refine wpList_load_blk rfl 27 12 rfl b 26 16 (by kernel_rfl) 46 _ s.lease.cs H'.out (by kernel_rfl) _ Try.underlying27 (by kernel_rfl) (by kernel_rfl) ?_)
      | ((with_reducible refine wpList_store_blk rfl 27 2 13 rfl w.heap.size 0 s.lease.cs (by kernel_rfl) (by kernel_rfl) 27 zeroL.cs HR.out (by rw [Ls.len, Ls.len]; decide) (by kernel_rfl) s.lease.one ?_); intro w3 hB3 g3))
    have hB4 : Blk w3 w.heap.size 27 s.lease.cs.toArray := by
      rw [show splice zeroL.cs 0 s.lease.cs = s.lease.cs by kernel_rfl] at hB3; exact hB3
    exact bodyPost_ret (v := .tuple #[.agg s.lease.cs.toArray, .bool true]) ((run_results_cell_tmp rfl _ _ _ _ _ _ _ rfl hB4 Try.underlying27 rfl (by kernel_rfl)).trans rfl) rfl ⟨rfl, bw.trans (below_only g3 (Nat.le_refl _) (by simp))⟩
  · rw [if_neg h3]
    have h4 : s.st < 3 := by omega
    have hd : decide (3 ≤ s.st) = false := by simpa using h3
    rw [hd]
    go_enter Try.func24, Try.ntmps24
    go_wp2_with ((with_reducible refine wpList_store_blk rfl 27 2 9 rfl w.heap.size 0 zeroL.cs (by kernel_rfl) (by kernel_rfl) 27 zeroL.cs HR.out (by rw [Ls.len]; decide) (by kernel_rfl) zeroL.one ?_); intro w3 hB3 g3)
    have hB4 : Blk w3 w.heap.size 27 zeroL.cs.toArray := by
      rw [show splice zeroL.cs 0 zeroL.cs = zeroL.cs by kernel_rfl] at hB3; exact hB3
    exact bodyPost_ret (v := .tuple #[.agg zeroL.cs.toArray, .bool false]) ((run_results_cell_tmp rfl _ _ _ _ _ _ _ rfl hB4 Try.underlying27 rfl (by kernel_rfl)).trans rfl) rfl ⟨rfl, bw.trans (below_only g3 (Nat.le_refl _) (by simp))⟩
end Go.Proofs.Ytgdlghieifadhaa
