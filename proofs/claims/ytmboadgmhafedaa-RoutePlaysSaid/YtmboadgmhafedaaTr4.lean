/-
  Routes, the program: the node of a net, where there is one.
-/
import Derived.Test.YtmboadgmhafedaaTr3
import Derived.Test.YtmboadgmhafedaaRtC
set_option linter.unusedVariables false
namespace Go.Proofs.Ytmboadgmhafedaa
open Go.RowKit

def ndV : Option Nd → Value
  | some d => .pointer (some ⟨d.g, 0, none⟩)
  | none => .pointer none
set_option maxHeartbeats 1600000 in
theorem atK (w : World) {B t : Nat} {T : Tre} {n : Int} (h : IsT w B t T n) (net b : Nat) (z u : Int) (hnet : net < 4294967296) (hb : b ≤ 32) :
    Calls Try.prog 19 #[.pointer (some ⟨t, 0, none⟩), .agg #[.int .u32 net, .int .i64 b, .int .u32 z, .int .i64 u], .bool false] w fun e w' => e = .returned (ndV (T (pth net b))) ∧ Below w.heap.size w w' := by
  have X0 := Lib.hid (Blk.new w 36 #[.int .u32 net, .int .i64 b, .int .u32 z, .int .i64 u])
  have B0 := Lib.hid (al (rf w) (.cells #[.int .u32 net, .int .i64 b, .int .u32 z, .int .i64 u] 36))
  have HT := Lib.hid (h.nx B0.out)
  clear h
  go_enter Try.func19, Try.ntmps19
  go_wp2
  generalize hW : w.alloc (.cells #[.int .u32 net, .int .i64 b, .int .u32 z, .int .i64 u] 36) = W at X0 B0 HT ⊢
  clear hW
  go_loopw [7, 15] (fun x kv wr => ∃ (k : Nat) (d : Nd), x = .pointer (some ⟨d.g, 0, none⟩) ∧ kv = .int .i64 k ∧ k ≤ b ∧ Hid (T (pth net k) = some d) ∧ Hid (Below W.heap.size W wr)) (fun _ kv _ => b - (intOf kv).toNat)
  case atStart =>
    obtain ⟨d, h1, h2⟩ := HT.out.root
    exact ⟨0, d, by rw [h2], rfl, Nat.zero_le _, h1, rf W⟩
  case round =>
    obtain ⟨k, d, rfl, rfl, hk, HD, HB⟩ := hrel
    by_cases hkb : k < b
    · have kb : (k : Int) < b := by omega
      have hbt := bt_lt net k
      have i0 : (0 : Int) ≤ (bt net k : Nat) := by omega
      have i1 : ((bt net k : Nat) : Int) < 2 := by omega
      have y0 : wr.cell? ⟨w.heap.size, 0, none⟩ = some (.int .u32 net) := (X0.out.nx HB.out).cell 0
      have yk := (HT.out.nx HB.out).kid HD.out hbt
      have k32 : k < 32 := by omega
      unfold kidV at yk
      rw [← pth_succ] at yk
      have HB2 : Hid (∀ n, Below W.heap.size W (wr.drewN n)) := fun n => dn HB.out n
      have HB3 : Hid (∀ n, Below w.heap.size w (wr.drewN n)) := fun n => nx B0.out (dn HB.out n)
      cases hT : T (pth net (k + 1)) with
      | some d2 =>
        rw [hT] at yk
        have HD2 := Lib.hid hT
        clear hT
        go_wp2
        go_quiet ((go_at_call 22; exact Calls.quiet_of (bitA net net k _ hnet k32 rfl)))
        go_wp2
        go_roundw
        case rel => exact ⟨k + 1, d2, rfl, by go_num, by omega, HD2.out, HB2.out _⟩
        case measure => simp [intOf]; omega
      | none =>
        rw [hT] at yk
        have HN : Hid (T (pth net b) = none) := HT.out.none_up hT b (by omega)
        clear hT
        go_wp2
        go_quiet ((go_at_call 22; exact Calls.quiet_of (bitA net net k _ hnet k32 rfl)))
        go_wp2
        go_ret
        exact ⟨by rw [HN.out]; rfl, HB3.out _⟩
    · obtain rfl : k = b := by omega
      have HE := Lib.hid (nx B0.out HB.out)
      go_wp2
      go_ret
      exact ⟨by rw [HD.out]; rfl, HE.out⟩
end Go.Proofs.Ytmboadgmhafedaa
