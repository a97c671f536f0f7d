/-
  Routes, the reference: its table; where a route stands; what is found.
-/
import Derived.Test.YtmboadgmhafedaaRr1
set_option linter.unusedVariables false
namespace Go.Proofs.Ytmboadgmhafedaa
open Go.RowKit

structure IsTr (w : World) (B t : Nat) (L : List R4) (v : Value) : Prop where
  tab : Blk w t 47 #[v]
  own : OwnL w B v L
  hb : B ≤ t
theorem IsTr.nx {w w' : World} {B t : Nat} {L : List R4} {v : Value} (h : IsTr w B t L v) (k : Below w.heap.size w w') : IsTr w' B t L v := ⟨h.tab.nx k, h.own.nx k, h.hb⟩
def keyP (x r : R4) : Prop := x.x = r.x ∧ x.y = r.y ∧ x.u = r.u
def SpotP (L : List R4) (r : R4) (s : Int) : Prop := (∃ (i : Nat) (x : R4), s = i ∧ L[i]? = some x ∧ keyP x r) ∨ (s = -1 ∧ ∀ x ∈ L, ¬ keyP x r)
set_option maxRecDepth 10000 in
set_option maxHeartbeats 3200000 in
theorem spotC (w : World) {B t : Nat} {L : List R4} {v : Value} (o : IsTr w B t L v) (hn : L.length ≤ 1000) (r : R4) :
    Calls Try.prog 28 #[.pointer (some ⟨t, 0, none⟩), .agg #[.int .u32 r.x, .int .i64 r.y, .int .u32 r.z, .int .i64 r.u]] w fun e w' => ∃ s, e = .returned (.int .i64 s) ∧ SpotP L r s ∧ Below w.heap.size w w' := by
  obtain ⟨A, c, rfl, hnc⟩ := o.own.form
  obtain ⟨n, hnn⟩ : ∃ n, L.length = n := ⟨_, rfl⟩
  rw [hnn] at o hnc hn
  have HO := Lib.hid o
  have HN := Lib.hid hnn
  obtain ⟨W, hW⟩ : ∃ W, w.alloc (.cells #[.int .u32 r.x, .int .i64 r.y, .int .u32 r.z, .int .i64 r.u] 36) = W := ⟨_, rfl⟩
  have bw : Below w.heap.size w W := by rw [← hW]; exact al (rf w) _
  have BX : Hid (Blk W w.heap.size 36 #[.int .u32 r.x, .int .i64 r.y, .int .u32 r.z, .int .i64 r.u]) := by show Blk _ _ _ _; rw [← hW]; exact Blk.new _ _ _
  have OW := Lib.hid (o.nx bw)
  have BW := Lib.hid bw
  clear o hnn bw
  go_enter Try.func28, Try.ntmps28
  go_wp2
  go_loopw [5] (fun iv wr => ∃ i : Nat, iv = .int .i64 i ∧ i ≤ n ∧ Hid (∀ (j : Nat) (x : R4), j < i → L[j]? = some x → ¬ keyP x r) ∧ Hid (Below W.heap.size W wr)) (fun iv _ => n - (intOf iv).toNat)
  case atStart => exact ⟨0, rfl, Nat.zero_le _, fun j x hj => absurd hj (Nat.not_lt_zero _), rf W⟩
  case round =>
    obtain ⟨i, rfl, hi, NO, BE⟩ := hrel
    have O1 := OW.out.nx BE.out
    have tc : wr.cell? ⟨t, 0, none⟩ = some (.slice A n c) := O1.tab.cell 0
    by_cases hin : i < n
    · have i0 : (0 : Int) ≤ i := by omega
      have i1 : (i : Int) < n := by omega
      obtain ⟨x, hx⟩ : ∃ x, L[i]? = some x := ⟨_, List.getElem?_eq_getElem (by have := HN.out; omega)⟩
      obtain ⟨g, hA, _, c0, c1, c2, c3⟩ := O1.own.cells hx
      subst hA
      have HX := Lib.hid hx
      have BX1 := BX.out.nx BE.out
      have r0 : (wr.alloc (.cells #[.int .u32 x.x, .int .i64 x.y, .int .u32 x.z, .int .i64 x.u] 36)).cell? ⟨w.heap.size, 0, none⟩ = some (.int .u32 r.x) := (BX1.nx (al (rf wr) _)).cell 0
      have r1 : (wr.alloc (.cells #[.int .u32 x.x, .int .i64 x.y, .int .u32 x.z, .int .i64 x.u] 36)).cell? ⟨w.heap.size, 1, none⟩ = some (.int .i64 r.y) := (BX1.nx (al (rf wr) _)).cell 1
      have r3 : (wr.alloc (.cells #[.int .u32 x.x, .int .i64 x.y, .int .u32 x.z, .int .i64 x.u] 36)).cell? ⟨w.heap.size, 3, none⟩ = some (.int .i64 r.u) := (BX1.nx (al (rf wr) _)).cell 3
      have BN := Lib.hid (al BE.out (.cells #[.int .u32 x.x, .int .i64 x.y, .int .u32 x.z, .int .i64 x.u] 36))
      have step : ¬ keyP x r → Hid (∀ (j : Nat) (q : R4), j < i + 1 → L[j]? = some q → ¬ keyP q r) := fun hk j q hj hq => by
        by_cases hji : j = i
        · subst hji; rw [HX.out] at hq; injection hq with hq; subst hq; exact hk
        · exact NO.out j q (by omega) hq
      have HST := Lib.hid step
      clear step hx O1 BX1
      by_cases e1 : x.x = r.x
      · by_cases e2 : x.y = r.y
        · by_cases e3 : x.u = r.u
          · have q1 : (x.x == r.x) = true := by simpa using e1
            have q2 : (x.y == r.y) = true := by simpa using e2
            have q3 : (x.u == r.u) = true := by simpa using e3
            have HE : Hid (SpotP L r i) := .inl ⟨i, x, rfl, HX.out, e1, e2, e3⟩
            have HB : Hid (Below w.heap.size w (wr.alloc (.cells #[.int .u32 x.x, .int .i64 x.y, .int .u32 x.z, .int .i64 x.u] 36))) := nx BW.out BN.out
            clear e1 e2 e3
            go_wp2
            go_ret
            exact ⟨_, rfl, HE.out, HB.out⟩
          · have q1 : (x.x == r.x) = true := by simpa using e1
            have q2 : (x.y == r.y) = true := by simpa using e2
            have q3 : (x.u == r.u) = false := by simpa using e3
            have N2 := HST.out fun h => e3 h.2.2
            clear e1 e2 e3
            go_wp2
            go_roundw
            case rel => exact ⟨i + 1, by go_num, by omega, N2.out, BN.out⟩
            case measure => simp [intOf]; omega
        · have q1 : (x.x == r.x) = true := by simpa using e1
          have q2 : (x.y == r.y) = false := by simpa using e2
          have N2 := HST.out fun h => e2 h.2.1
          clear e1 e2
          go_wp2
          go_roundw
          case rel => exact ⟨i + 1, by go_num, by omega, N2.out, BN.out⟩
          case measure => simp [intOf]; omega
      · have q1 : (x.x == r.x) = false := by simpa using e1
        have N2 := HST.out fun h => e1 h.1
        clear e1
        go_wp2
        go_roundw
        case rel => exact ⟨i + 1, by go_num, by omega, N2.out, BN.out⟩
        case measure => simp [intOf]; omega
    · obtain rfl : i = n := by omega
      have HE : Hid (SpotP L r (-1)) := .inr ⟨rfl, fun x hx => by
        obtain ⟨j, hj⟩ := List.getElem?_of_mem hx
        exact NO.out j x (by have := (List.getElem?_eq_some_iff.1 hj).1; have := HN.out; omega) hj⟩
      have HB : Hid (Below w.heap.size w wr) := nx BW.out BE.out
      clear O1
      go_wp2
      go_ret
      exact ⟨_, rfl, HE.out, HB.out⟩
end Go.Proofs.Ytmboadgmhafedaa
