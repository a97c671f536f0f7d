/-
  Routes, the program: where a route stands in its node.
-/
import Derived.Test.YtmboadgmhafedaaTr1
import Derived.Test.YtmboadgmhafedaaLex
set_option linter.unusedVariables false
namespace Go.Proofs.Ytmboadgmhafedaa
open Go.RowKit

set_option maxHeartbeats 1600000 in
theorem nfindC (w : World) {B g : Nat} {v : Value} {rs : List R4} (hc : w.cell? ⟨g, 0, none⟩ = some v) (own : OwnL w B v rs) (hs : SortL rs) (hn : rs.length ≤ 1000) (r : R4) :
    Calls Try.prog 20 #[.pointer (some ⟨g, 0, none⟩), .agg #[.int .u32 r.x, .int .i64 r.y, .int .u32 r.z, .int .i64 r.u]] w fun e w' => e = .returned (.tuple #[.int .i64 (posL rs r.u), .bool (hitL rs r.u)]) ∧ Below w.heap.size w w' := by
  obtain ⟨W, hW⟩ : ∃ W, w.alloc (.cells #[.int .u32 r.x, .int .i64 r.y, .int .u32 r.z, .int .i64 r.u] 36) = W := ⟨_, rfl⟩
  have bw : Below w.heap.size w W := by rw [← hW]; exact al (rf w) _
  have h3 : W.cell? ⟨w.heap.size, 3, none⟩ = some (.int .i64 r.u) := by rw [← hW]; exact (Blk.new w _ _).cell 3
  have h0 : W.cell? ⟨g, 0, none⟩ = some v := (bw.cell (block_lt_of_cell hc)).trans hc
  have N0 : ∀ z : Bw W, z.w.cell? ⟨g, 0, none⟩ = some v := fun z => (z.h.cell (block_lt_of_cell h0)).trans h0
  have M3 : ∀ z : Bw W, z.w.cell? ⟨w.heap.size, 3, none⟩ = some (.int .i64 r.u) := fun z => (z.h.cell (block_lt_of_cell h3)).trans h3
  have BS : Hid (∀ z : Bw W, Calls Try.prog 32 #[v, .int .i64 r.u, .func (Fn.func 33) #[] #[]] z.w fun e w' => e = .returned (.tuple #[.int .i64 (posL rs r.u), .bool (hitL rs r.u)]) ∧ Below z.w.heap.size z.w w') := fun z => bsfK z.w B v rs r.u ((own.nx bw).nx z.h) hs (Nat.le_trans hn (by decide))
  have BW := Lib.hid bw
  obtain ⟨A, c, hv, _⟩ := own.form
  subst hv
  clear own hs hn bw hc h0 h3
  go_enter Try.func20, Try.ntmps20
  go_wp2
  refine wp_region_below (by kernel_rfl) (by as_aux_lemma => exact lexB_of _ (by kernel_rfl) (by kernel_rfl)) ?_
  repeat (go_big_quiet_step (exact Calls.bw _ (BS.out _)))
  refine wpQuiet_nil ?_
  intro W2 hw'
  have hW2 : Below W.heap.size W W2 := by obtain ⟨z, hz⟩ := hw'; rw [hz]; exact z.h
  have HB := Lib.hid (nx BW.out hW2)
  clear hw' N0 M3 hW2
  go_wp2
  refine bodyPost_ret (results_tmp2 rfl _ _ _) rfl ?_
  exact ⟨rfl, HB.out⟩
end Go.Proofs.Ytmboadgmhafedaa
