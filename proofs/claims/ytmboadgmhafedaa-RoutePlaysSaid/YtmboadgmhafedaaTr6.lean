/-
  Routes, the program: the node of a net, made where there is none.
-/
import Derived.Test.YtmboadgmhafedaaTr5
set_option linter.unusedVariables false
namespace Go.Proofs.Ytmboadgmhafedaa
open Go.RowKit

def AtM (w : World) (B t : Nat) (T : Tre) (n : Int) (p : List Nat) (e : Ending) (w' : World) : Prop :=
  ∃ (T' : Tre) (d : Nd), e = .returned (.pointer (some ⟨d.g, 0, none⟩)) ∧ T' p = some d ∧ IsT w' B t T' n ∧ (∀ q, rsOf T' q = rsOf T q) ∧ Gs w w' T T'
theorem rs_lay {T : Tre} {p : List Nat} {g : Nat} {v : Value} (hn : T p = none) (q : List Nat) : rsOf (upT T p (some ⟨g, v, []⟩)) q = rsOf T q := by
  by_cases h : q = p
  · subst h
    rw [rsOf_some (d := ⟨g, v, []⟩) upT_at, rsOf_none hn]
  · unfold rsOf
    rw [upT_ne h]
set_option maxHeartbeats 1600000 in
theorem atM (w : World) {B t : Nat} {T : Tre} {n : Int} (h : IsT w B t T n) (hB : B ≤ w.heap.size) (net b : Nat) (z u : Int) (hnet : net < 4294967296) (hb : b ≤ 32) :
    Calls Try.prog 19 #[.pointer (some ⟨t, 0, none⟩), .agg #[.int .u32 net, .int .i64 b, .int .u32 z, .int .i64 u], .bool true] w (AtM w B t T n (pth net b)) := by
  have X0 := Lib.hid (Blk.new w 36 #[.int .u32 net, .int .i64 b, .int .u32 z, .int .i64 u])
  have B0 := Lib.hid (al (rf w) (.cells #[.int .u32 net, .int .i64 b, .int .u32 z, .int .i64 u] 36))
  have NF : Hid (¬ Foot T w.heap.size) := fun hf => by have := (h.foot hf).2; omega
  have HT := Lib.hid (h.nx B0.out)
  have HBB : Hid (B ≤ w.heap.size) := hB
  clear h hB
  go_enter Try.func19, Try.ntmps19
  go_wp2
  generalize hW : w.alloc (.cells #[.int .u32 net, .int .i64 b, .int .u32 z, .int .i64 u] 36) = W at X0 B0 HT ⊢
  clear hW
  go_loopw [7, 15] (fun x kv wr => ∃ (k : Nat) (T' : Tre) (d : Nd), x = .pointer (some ⟨d.g, 0, none⟩) ∧ kv = .int .i64 k ∧ k ≤ b ∧ Hid (T' (pth net k) = some d) ∧ Hid (IsT wr B t T' n) ∧ Hid (∀ q, rsOf T' q = rsOf T q) ∧ Hid (Gs W wr T T')) (fun _ kv _ => b - (intOf kv).toNat)
  case atStart =>
    obtain ⟨d, h1, h2⟩ := HT.out.root
    exact ⟨0, T, d, by rw [h2], rfl, Nat.zero_le _, h1, HT.out, fun q => rfl, Gs.of_below (rf W)⟩
  case round =>
    obtain ⟨k, T', d, rfl, rfl, hk, HD, HI, HR, HG⟩ := hrel
    by_cases hkb : k < b
    · have kb : (k : Int) < b := by omega
      have hbt := bt_lt net k
      have i0 : (0 : Int) ≤ (bt net k : Nat) := by omega
      have i1 : ((bt net k : Nat) : Int) < 2 := by omega
      have k32 : k < 32 := by omega
      have y0 : wr.cell? ⟨w.heap.size, 0, none⟩ = some (.int .u32 net) := (HG.out.keep.blk X0.out NF.out).cell 0
      have yk := HI.out.kid HD.out hbt
      unfold kidV at yk
      rw [← pth_succ] at yk
      cases hT : T' (pth net (k + 1)) with
      | some d2 =>
        rw [hT] at yk
        have HD2 := Lib.hid hT
        have HI2 : Hid (∀ m, IsT (wr.drewN m) B t T' n) := fun m => HI.out.nx (dn (rf wr) m)
        have HG2 : Hid (∀ m, Gs W (wr.drewN m) T T') := fun m => HG.out.trans (Gs.of_below (dn (rf wr) m))
        clear hT
        go_wp2
        go_quiet ((go_at_call 22; exact Calls.quiet_of (bitA net net k _ hnet k32 rfl)))
        go_wp2
        go_roundw
        case rel => exact ⟨k + 1, T', d2, rfl, by go_num, by omega, HD2.out, HI2.out _, HR.out, HG2.out _⟩
        case measure => simp [intOf]; omega
      | none =>
        rw [hT] at yk
        have F1 : Hid (∀ m o, ((wr.drewN m).alloc o).cell? ⟨d.g, 1 + bt net k, none⟩ = some (.pointer none)) := fun m o => by
          have h1 := (HI.out.nx (al (dn (rf wr) m) o)).kid HD.out hbt
          rw [kidV_none (by rw [← pth_succ]; exact hT)] at h1
          exact h1
        have F2 : Hid (∀ m o, ((wr.drewN m).alloc o).frozen? ⟨d.g, 1 + bt net k, none⟩ = false) := fun m o => (HI.out.nx (al (dn (rf wr) m) o)).fro HD.out _
        have LY : Hid (∀ m, IsT (((wr.drewN m).alloc (.cells #[.slice none 0 0, .pointer none, .pointer none] 30)).setCell ⟨d.g, 1 + bt net k, none⟩ (.pointer (some ⟨wr.heap.size, 0, none⟩))) B t (upT T' (pth net (k + 1)) (some ⟨wr.heap.size, .slice none 0 0, []⟩)) n ∧
            Gs W (((wr.drewN m).alloc (.cells #[.slice none 0 0, .pointer none, .pointer none] 30)).setCell ⟨d.g, 1 + bt net k, none⟩ (.pointer (some ⟨wr.heap.size, 0, none⟩))) T (upT T' (pth net (k + 1)) (some ⟨wr.heap.size, .slice none 0 0, []⟩))) := fun m => by
          have hs : B ≤ wr.heap.size := by have h1 := HG.out.keep.size; have h2 := B0.out.size; have h3 := HBB.out; omega
          have h1 := (HI.out.nx (dn (rf wr) m)).lay (c := bt net k) hs HD.out hbt (by rw [pth_len]; exact k32) (by rw [← pth_succ]; exact hT)
          rw [← pth_succ] at h1
          exact ⟨h1.1, (HG.out.trans (Gs.of_below (dn (rf wr) m))).trans h1.2⟩
        have HR2 : Hid (∀ q, rsOf (upT T' (pth net (k + 1)) (some ⟨wr.heap.size, .slice none 0 0, []⟩)) q = rsOf T q) := fun q => (rs_lay hT q).trans (HR.out q)
        clear hT
        go_wp2
        go_quiet ((go_at_call 22; exact Calls.quiet_of (bitA net net k _ hnet k32 rfl)))
        have f1 := F1.out nq
        have f2 := F2.out nq
        have ykn : (wr.drewN nq).cell? ⟨d.g, 1 + bt net k, none⟩ = some (.pointer none) := yk
        go_wp2
        go_roundw
        case rel => exact ⟨k + 1, _, ⟨wr.heap.size, .slice none 0 0, []⟩, rfl, by go_num, by omega, upT_at, (LY.out _).1, HR2.out, (LY.out _).2⟩
        case measure => simp [intOf]; omega
    · obtain rfl : k = b := by omega
      have HE : Hid (AtM w B t T n (pth net k) (.returned (.pointer (some ⟨d.g, 0, none⟩))) wr) := ⟨T', d, rfl, HD.out, HI.out, HR.out, (Gs.of_below B0.out).trans HG.out⟩
      go_wp2
      go_ret
      exact HE.out
end Go.Proofs.Ytmboadgmhafedaa
