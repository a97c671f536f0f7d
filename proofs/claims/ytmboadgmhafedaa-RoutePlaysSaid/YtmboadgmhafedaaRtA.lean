/-
  Routes: the small functions: a bit of an address, where a route stands among none, the first one laid.
-/
import Derived.Test.YtmboadgmhafedaaW
import Derived.Test.YtmboadgmhafedaaMem
import Derived.Deep.QuietTactic
import Derived.BigQuiet
set_option linter.unusedVariables false
namespace Go.Proofs.Ytmboadgmhafedaa
open Go.RowKit

def rz : Value := .agg #[.int .u32 0, .int .i64 0, .int .u32 0, .int .i64 0]
theorem stR : SliceTy Try.prog 22 36 4 32 rz := ⟨Try.underlying22, by kernel_rfl, rfl, by omega⟩
def bt (a : Nat) (i : Nat) : Nat := a / 2 ^ (31 - i) % 2
theorem bt_lt (a i : Nat) : bt a i < 2 := Nat.mod_lt _ (by decide)
theorem bits_one (x : Int) (h0 : 0 ≤ x) (h1 : x < 4294967296) : bits .and .u32 x 1 = x % 2 := by
  have := bits_mask .u32 32 (by decide) (fun n h h' => by rw [IntKind.wrap_u32]; omega) 1 (by decide) x h0 (by omega)
  exact this
theorem bitC (a i : Nat) (w : World) (ha : a < 4294967296) (hi : i < 32) : Calls Try.prog 22 #[.int .u32 a, .int .i64 i] w fun e w' => e = .returned (.int .i64 (bt a i)) ∧ w' = w := by
  have h1 : ((31 : Int) - i) = ((31 - i : Nat) : Int) := by omega
  have e : ((a / 2 ^ (31 - i) : Nat) : Int) = (a : Int) / 2 ^ (31 - i) := by rw [Int.natCast_ediv]; simp
  have hlt : a / 2 ^ (31 - i) ≤ a := Nat.div_le_self _ _
  have HB : Hid (wrap64 (bits BinOp.and IntKind.u32 ((a : Int) / 2 ^ (31 - i)) 1) = (bt a i : Int)) := by
    show _ = _
    unfold bt
    rw [← e]
    generalize a / 2 ^ (31 - i) = m at hlt ⊢
    rw [bits_one _ (by omega) (by omega)]
    have h2 : (m : Int) % 2 = ((m % 2 : Nat) : Int) := by omega
    rw [h2]
    exact IntWalk.wrap64_in ((m % 2 : Nat) : Int) (by omega)
  clear e hlt
  go_enter Try.func22, Try.ntmps22
  go_wp2
  go_ret
  exact ⟨by rw [← HB.out]; rfl, rfl⟩
theorem may1 (w : World) : (Calls Try.prog 18 #[.agg #[.int .u32 167772160, .int .i64 8, .int .u32 1, .int .i64 0]] w fun e w' => e = .returned (.bool true) ∧ Below w.heap.size w w') := by
  have B1 := Lib.hid (al (rf w) (.cells #[.int .u32 167772160, .int .i64 8, .int .u32 1, .int .i64 0] 36))
  have q : (bits BinOp.and IntKind.u64 42949672960 4294967295 == 0) = true := by decide +kernel
  go_enter Try.func18, Try.ntmps18
  go_wp2
  go_ret
  exact ⟨rfl, B1.out⟩
theorem may2 (w : World) : (Calls Try.prog 18 #[.agg #[.int .u32 167837696, .int .i64 16, .int .u32 2, .int .i64 0]] w fun e w' => e = .returned (.bool true) ∧ Below w.heap.size w w') := by
  have B1 := Lib.hid (al (rf w) (.cells #[.int .u32 167837696, .int .i64 16, .int .u32 2, .int .i64 0] 36))
  have q : (bits BinOp.and IntKind.u64 10999411245056 4294967295 == 0) = true := by decide +kernel
  go_enter Try.func18, Try.ntmps18
  go_wp2
  go_ret
  exact ⟨rfl, B1.out⟩
def fnV : Value := .func (Fn.func 33) #[] #[]
theorem bsf0 (A : Option Addr) (c : Nat) (a : Int) (w : World) :
    Calls Try.prog 32 #[.slice A 0 c, .int .i64 a, fnV] w fun e w' => e = .returned (.tuple #[.int .i64 0, .bool false]) ∧ ∃ n, w' = w.drewN n := by
  unfold fnV
  go_enter Try.func32, Try.ntmps32
  go_wp2
  go_loopw [9, 10] (fun i j wr => i = .int .i64 0 ∧ j = .int .i64 0 ∧ wr = w) (fun _ _ _ => 0)
  case atStart => exact ⟨rfl, rfl, rfl⟩
  case round =>
    obtain ⟨rfl, rfl, rfl⟩ := hrel
    go_wp2
    refine bodyPost_ret (results_tmp2 rfl _ _ _) rfl ?_
    exact ⟨rfl, 0, rfl⟩
set_option maxHeartbeats 800000 in
theorem ins0 (w : World) (s : Nat) (a b c d : Int) (hs : Blk w s 36 #[.int .u32 a, .int .i64 b, .int .u32 c, .int .i64 d]) :
    Calls Try.prog 21 #[.slice none 0 0, .int .i64 0, .slice (some ⟨s, 0, none⟩) 1 1] w fun e w' => ∃ g cap cs, e = .returned (.slice (some ⟨g, 0, none⟩) 1 cap) ∧ Blk w' g 36 cs ∧ cs.toList.take 4 = [.int .u32 a, .int .i64 b, .int .u32 c, .int .i64 d] ∧ 1 ≤ cap ∧ w.heap.size ≤ g ∧ Below w.heap.size w w' := by
  have HS := Lib.hid hs
  clear hs
  go_enter Try.func21, Try.ntmps21
  go_wp2_with (at_builtin
               refine app_any stR rfl (.tmp 23) (.tmp 24) rfl w.heap.size _ 0 [] rfl (World.ownsRow_nil _ _ _ _) (some ⟨s, 0, none⟩) 1 1 [.int .u32 a, .int .i64 b, .int .u32 c, .int .i64 d] rfl ⟨rfl, fun _ => ⟨_, rfl, HS.out.lt, fun j u hj => ?cs⟩⟩ (by intro u hu; simp at hu; rcases hu with rfl | rfl | rfl | rfl <;> rfl) (by omega) (by omega) (Nat.le_refl _) ?_
               case cs => (match j, hj with | 0, hj => (cases hj; exact HS.out.cell 0) | 1, hj => (cases hj; exact HS.out.cell 1) | 2, hj => (cases hj; exact HS.out.cell 2) | 3, hj => (cases hj; exact HS.out.cell 3))
               intro v1 w1 own1 gr1 at1 bel1)
  go_ret
  rcases own1.2 with ⟨rfl, h0⟩ | ⟨g, cap, cur, rfl, hg, hh, h1, h2, h3, h4⟩
  · simp at h0
  · exact ⟨g, cap, cur, rfl, hh, by simpa using h4, h1, hg, bel1⟩
theorem find0 (w : World) (h : Nat) (a b c d : Int) (h0 : w.cell? ⟨h, 0, none⟩ = some (.slice none 0 0)) :
    Calls Try.prog 20 #[.pointer (some ⟨h, 0, none⟩), .agg #[.int .u32 a, .int .i64 b, .int .u32 c, .int .i64 d]] w fun e w' => e = .returned (.tuple #[.int .i64 0, .bool false]) ∧ Below w.heap.size w w' := by
  have B1 := Lib.hid (al (rf w) (.cells #[.int .u32 a, .int .i64 b, .int .u32 c, .int .i64 d] 36))
  have hlt := block_lt_of_cell h0
  have c0 : (w.alloc (.cells #[.int .u32 a, .int .i64 b, .int .u32 c, .int .i64 d] 36)).cell? ⟨h, 0, none⟩ = some (.slice none 0 0) := (B1.out.cell hlt).trans h0
  go_enter Try.func20, Try.ntmps20
  go_wp2
  go_quiet ((go_at_call 32; exact Calls.quiet_of (bsf0 none 0 d _)))
  go_wp2
  refine bodyPost_ret (results_tmp2 rfl _ _ _) rfl ?_
  exact ⟨rfl, dn B1.out _⟩
end Go.Proofs.Ytmboadgmhafedaa
