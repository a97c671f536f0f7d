/-
  Routes: the node of a net along a chain, asked for and made.
-/
import Derived.Test.YtmboadgmhafedaaRtB
set_option linter.unusedVariables false
namespace Go.Proofs.Ytmboadgmhafedaa
open Go.RowKit

theorem Ch.ne {w : World} {B a d : Nat} {g : Nat → Nat} {rs : Nat → Value} {n : Int} {Kp : List (Nat × Array Value)} (h : Ch w B a d g rs n Kp) {j x : Nat} {cs : Array Value} (hj : j ≤ d) (hb : Blk w x 36 cs) : x ≠ g j := by
  by_cases h0 : j = 0
  · subst h0; exact hb.ne_ h.root (by decide)
  · exact hb.ne_ (h.node j (by omega) hj) (by decide)
theorem bitA (net a i : Nat) (w : World) (hn : net < 4294967296) (hi : i < 32) (h : bt net i = bt a i) : Calls Try.prog 22 #[.int .u32 net, .int .i64 i] w fun e w' => e = .returned (.int .i64 (bt a i)) ∧ ∃ n, w' = w.drewN n :=
  (bitC net i w hn hi).mono fun e w' ⟨h1, h2⟩ => ⟨by rw [h1, h], 0, h2⟩
set_option maxHeartbeats 1600000 in
theorem atF (w : World) (B a d : Nat) (g : Nat → Nat) (rs : Nat → Value) (n : Int) (Kp : List (Nat × Array Value)) (h : Ch w B a d g rs n Kp) (net b via : Nat) (m : Int) (hnet : net < 4294967296) (hb : b ≤ 32) (hdb : d < b) (hbits : ∀ i, i < b → bt net i = bt a i) :
    Calls Try.prog 19 #[.pointer (some ⟨g 0, 0, none⟩), .agg #[.int .u32 net, .int .i64 b, .int .u32 via, .int .i64 m], .bool false] w fun e w' => e = .returned (.pointer none) ∧ Below w.heap.size w w' := by
  have X0 := Lib.hid (Blk.new w 36 #[.int .u32 net, .int .i64 b, .int .u32 via, .int .i64 m])
  have B0 := Lib.hid (al (rf w) (.cells #[.int .u32 net, .int .i64 b, .int .u32 via, .int .i64 m] 36))
  have HC := Lib.hid (h.nx B0.out)
  have HBT := Lib.hid hbits
  clear h hbits
  go_enter Try.func19, Try.ntmps19
  go_wp2
  generalize hW : w.alloc (.cells #[.int .u32 net, .int .i64 b, .int .u32 via, .int .i64 m] 36) = W at X0 B0 HC ⊢
  clear hW
  go_loopw [7, 15] (fun x kv wr => ∃ k : Nat, x = .pointer (some ⟨g k, 0, none⟩) ∧ kv = .int .i64 k ∧ k ≤ d ∧ Hid (Below W.heap.size W wr)) (fun _ kv _ => d - (intOf kv).toNat)
  case atStart => exact ⟨0, rfl, rfl, by omega, rf W⟩
  case round =>
    obtain ⟨k, rfl, rfl, hk, HB⟩ := hrel
    have kb : (k : Int) < b := by omega
    have hbt := bt_lt a k
    have i0 : (0 : Int) ≤ (bt a k : Nat) := by omega
    have i1 : ((bt a k : Nat) : Int) < 2 := by omega
    have y0 : wr.cell? ⟨w.heap.size, 0, none⟩ = some (.int .u32 net) := (X0.out.nx HB.out).cell 0
    have yk := (HC.out.nx HB.out).kidc hk hbt
    have HQ : Hid (bt net k = bt a k) := HBT.out k (by omega)
    have k32 : k < 32 := by omega
    by_cases hkd : k < d
    · have e : kid a d g k (bt a k) = .pointer (some ⟨g (k + 1), 0, none⟩) := if_pos ⟨hkd, rfl⟩
      rw [e] at yk
      clear e
      have HB2 : Hid (∀ n, Below W.heap.size W (wr.drewN n)) := fun n => dn HB.out n
      go_wp2
      go_quiet ((go_at_call 22; exact Calls.quiet_of (bitA net a k _ hnet k32 HQ.out)))
      go_wp2
      go_roundw
      case rel => exact ⟨k + 1, rfl, by go_num, by omega, HB2.out _⟩
      case measure => simp [intOf]; omega
    · have e : kid a d g k (bt a k) = .pointer none := if_neg (by omega)
      rw [e] at yk
      clear e
      have HB2 : Hid (∀ n, Below w.heap.size w (wr.drewN n)) := fun n => nx B0.out (dn HB.out n)
      go_wp2
      go_quiet ((go_at_call 22; exact Calls.quiet_of (bitA net a k _ hnet k32 HQ.out)))
      go_wp2
      go_ret
      exact ⟨rfl, HB2.out _⟩
def AtP (w : World) (B a d : Nat) (g : Nat → Nat) (rs : Nat → Value) (n : Int) (Kp : List (Nat × Array Value)) (b : Nat) (e : Ending) (w' : World) : Prop :=
  ∃ (g' : Nat → Nat) (rs' : Nat → Value), e = .returned (.pointer (some ⟨g' b, 0, none⟩)) ∧ Ch w' B a b g' rs' n Kp ∧ (∀ j, j ≤ d → g' j = g j ∧ rs' j = rs j) ∧ (∀ j, d < j → j ≤ b → rs' j = nilS) ∧ Below B w w'
set_option maxHeartbeats 1600000 in
theorem atT (w : World) (B a d : Nat) (g : Nat → Nat) (rs : Nat → Value) (n : Int) (Kp : List (Nat × Array Value)) (h : Ch w B a d g rs n Kp) (net b via : Nat) (m : Int) (hnet : net < 4294967296) (hb : b ≤ 32) (hdb : d < b) (hbits : ∀ i, i < b → bt net i = bt a i) :
    Calls Try.prog 19 #[.pointer (some ⟨g 0, 0, none⟩), .agg #[.int .u32 net, .int .i64 b, .int .u32 via, .int .i64 m], .bool true] w (AtP w B a d g rs n Kp b) := by
  have X0 := Lib.hid (Blk.new w 36 #[.int .u32 net, .int .i64 b, .int .u32 via, .int .i64 m])
  have B0 := Lib.hid (al (rf w) (.cells #[.int .u32 net, .int .i64 b, .int .u32 via, .int .i64 m] 36))
  have HC0 := Lib.hid (h.nx B0.out)
  have BB := Lib.hid h.hB
  have hgl := h.lo
  have BW : Hid (Below B w (w.alloc (.cells #[.int .u32 net, .int .i64 b, .int .u32 via, .int .i64 m] 36))) := B0.out.mono h.hB
  have HBT := Lib.hid hbits
  clear h hbits hgl
  go_enter Try.func19, Try.ntmps19
  go_wp2
  generalize hW : w.alloc (.cells #[.int .u32 net, .int .i64 b, .int .u32 via, .int .i64 m] 36) = W at X0 B0 HC0 BW ⊢
  clear hW
  have hg0 := X0.out.lt
  go_loopw [7, 15] (fun x kv wr => ∃ (k d' : Nat) (g' : Nat → Nat) (rs' : Nat → Value), x = .pointer (some ⟨g' k, 0, none⟩) ∧ kv = .int .i64 k ∧ k ≤ b ∧ k ≤ d' ∧ d' ≤ b ∧ d ≤ d' ∧ (d' ≠ d → d' = k) ∧ Hid (Ch wr B a d' g' rs' n Kp) ∧ Hid (∀ j, j ≤ d → g' j = g j ∧ rs' j = rs j) ∧ Hid (∀ j, d < j → j ≤ d' → rs' j = nilS) ∧ Hid (Below B W wr) ∧ Hid (Blk wr w.heap.size 36 #[.int .u32 net, .int .i64 b, .int .u32 via, .int .i64 m])) (fun _ kv _ => b - (intOf kv).toNat)
  case atStart => exact ⟨0, d, g, rs, rfl, rfl, by omega, by omega, by omega, by omega, fun h => absurd rfl h, HC0.out, fun j _ => ⟨rfl, rfl⟩, fun j h1 h2 => by omega, (rf W).mono (Nat.le_trans BB.out B0.out.size), X0.out⟩
  case round =>
    obtain ⟨k, d', g', rs', rfl, rfl, hk, hkd, hdb', hdd, hdk, HC, HG, HR, HB, HY⟩ := hrel
    by_cases hkb : k < b
    · have kb : (k : Int) < b := by omega
      have k32 : k < 32 := by omega
      have hbt := bt_lt a k
      have i0 : (0 : Int) ≤ (bt a k : Nat) := by omega
      have i1 : ((bt a k : Nat) : Int) < 2 := by omega
      have y0 : wr.cell? ⟨w.heap.size, 0, none⟩ = some (.int .u32 net) := HY.out.cell 0
      have yk := HC.out.kidc hkd hbt
      have HQ : Hid (bt net k = bt a k) := HBT.out k (by omega)
      by_cases hke : k < d'
      · have e : kid a d' g' k (bt a k) = .pointer (some ⟨g' (k + 1), 0, none⟩) := if_pos ⟨hke, rfl⟩
        rw [e] at yk
        clear e
        have HB2 : Hid (∀ n, Below B W (wr.drewN n)) := fun m => HB.out.trans ((dn (rf wr) m).mono HC.out.hB)
        have HC2 : Hid (∀ m, Ch (wr.drewN m) B a d' g' rs' n Kp) := fun m => HC.out.nx (dn (rf wr) m)
        have HY2 : Hid (∀ m', Blk (wr.drewN m') w.heap.size 36 #[.int .u32 net, .int .i64 b, .int .u32 via, .int .i64 m]) := fun m' => HY.out
        go_wp2
        go_quiet ((go_at_call 22; exact Calls.quiet_of (bitA net a k _ hnet k32 HQ.out)))
        go_wp2
        go_roundw
        case rel => exact ⟨k + 1, d', g', rs', rfl, by go_num, by omega, by omega, by omega, by omega, fun h => absurd (hdk h) (by omega), HC2.out _, HG.out, HR.out, HB2.out _, HY2.out _⟩
        case measure => simp [intOf]; omega
      · have hke2 : k = d' := by omega
        have e : kid a d' g' k (bt a k) = .pointer none := if_neg (by omega)
        rw [e] at yk
        clear e
        have hgk := HC.out.lt hkd
        have F1 : Hid (∀ m o, ((wr.drewN m).alloc o).cell? ⟨g' k, 1 + bt a k, none⟩ = some (.pointer none)) := fun m o => by
          have h1 := (HC.out.nx (al (dn (rf wr) m) o)).kidc hkd hbt
          have e : kid a d' g' k (bt a k) = .pointer none := if_neg (by omega)
          rwa [e] at h1
        have F2 : Hid (∀ m o, ((wr.drewN m).alloc o).frozen? ⟨g' k, 1 + bt a k, none⟩ = false) := fun m o => (HC.out.nx (al (dn (rf wr) m) o)).fro hkd _
        have HN : Hid (∀ m, Ch (((wr.drewN m).alloc (.cells #[nilS, .pointer none, .pointer none] 30)).setCell ⟨g' k, 1 + bt a k, none⟩ (.pointer (some ⟨wr.heap.size, 0, none⟩))) B a (k + 1) (up g' (k + 1) wr.heap.size) (up rs' (k + 1) nilS) n Kp) := fun m => by
          have h1 := (HC.out.nx (dn (rf wr) m)).grow
          rw [← hke2] at h1
          exact h1
        have HB2 : Hid (∀ m, Below B W (((wr.drewN m).alloc (.cells #[nilS, .pointer none, .pointer none] 30)).setCell ⟨g' k, 1 + bt a k, none⟩ (.pointer (some ⟨wr.heap.size, 0, none⟩)))) := fun m => by
          have h1 := (HB.out.trans ((dn (rf wr) m).mono HC.out.hB)).alloc (by have := HC.out.hB; exact this) (.cells #[nilS, .pointer none, .pointer none] 30)
          exact h1.setCell (by have := HC.out.lo k hkd; exact this) _
        have HY2 : Hid (∀ m', Blk (((wr.drewN m').alloc (.cells #[nilS, .pointer none, .pointer none] 30)).setCell ⟨g' k, 1 + bt a k, none⟩ (.pointer (some ⟨wr.heap.size, 0, none⟩))) w.heap.size 36 #[.int .u32 net, .int .i64 b, .int .u32 via, .int .i64 m]) := fun m' =>
          (HY.out.nx (al (dn (rf wr) m') _)).far (p := ⟨g' k, 1 + bt a k, none⟩) (HC.out.ne hkd HY.out) _
        have HG2 : Hid (∀ s j, j ≤ d → up g' (k + 1) s j = g j ∧ up rs' (k + 1) nilS j = rs j) := fun s j hj => by
          rw [up_ne (by omega), up_ne (by omega)]
          exact HG.out j hj
        have HR2 : Hid (∀ j, d < j → j ≤ k + 1 → up rs' (k + 1) nilS j = nilS) := fun j h1 h2 => by
          by_cases hj : j = k + 1
          · subst hj; exact up_at
          · rw [up_ne hj]; exact HR.out j h1 (by omega)
        have HKE := Lib.hid hke2
        clear hke2
        go_wp2
        go_quiet ((go_at_call 22; exact Calls.quiet_of (bitA net a k _ hnet k32 HQ.out)))
        have f1 := F1.out nq
        have f2 := F2.out nq
        have ykn : (wr.drewN nq).cell? ⟨g' k, 1 + bt a k, none⟩ = some (.pointer none) := yk
        go_wp2
        go_roundw
        case rel => exact ⟨k + 1, k + 1, up g' (k + 1) wr.heap.size, up rs' (k + 1) nilS, by rw [up_at], by go_num, by omega, by omega, by omega, by omega, fun _ => rfl, HN.out _, HG2.out _, HR2.out, HB2.out _, HY2.out _⟩
        case measure => simp [intOf]; omega
    · have hkb2 : k = b := by omega
      have e1 : d' = b := by omega
      have HF : Hid (AtP w B a d g rs n Kp b (.returned (.pointer (some ⟨g' k, 0, none⟩))) wr) := by
        refine ⟨g', rs', by rw [hkb2], ?_, HG.out, fun j h1 h2 => HR.out j h1 (by omega), BW.out.trans HB.out⟩
        rw [← e1]; exact HC.out
      go_wp2
      go_ret
      exact HF.out
end Go.Proofs.Ytmboadgmhafedaa
