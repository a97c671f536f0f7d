/-
  Routes: the route that an address goes by, along a chain.
-/
import Derived.Test.YtmboadgmhafedaaRtD
import Derived.Laws.CopyOwn
set_option linter.unusedVariables false
namespace Go.Proofs.Ytmboadgmhafedaa
open Go.RowKit

structure R4 where
  (x y z u : Int)
def R4.cs (r : R4) : List Value := [.int .u32 r.x, .int .i64 r.y, .int .u32 r.z, .int .i64 r.u]
set_option maxHeartbeats 800000 in
theorem findNil (w : World) (a : Nat) : Calls Try.prog 10 #[.pointer none, .int .u32 a] w fun e w' => e = .returned (.tuple #[.agg #[.int .u32 0, .int .i64 0, .int .u32 0, .int .i64 0], .int .i64 7]) ∧ Below w.heap.size w w' := by
  have HZ := Lib.hid (Blk.new w 36 #[.int .u32 0, .int .i64 0, .int .u32 0, .int .i64 0])
  go_enter Try.func10, Try.ntmps10
  go_wp2_with (refine wpList_store_row rfl 36 (.tmp 4) (.tmp 12) rfl _ #[.int .u32 0, .int .i64 0, .int .u32 0, .int .i64 0] rfl rfl _ _ HZ.out (by kernel_rfl) rfl (by kernel_rfl) ?_)
  exact bodyPost_ret (v := .tuple #[.agg #[.int .u32 0, .int .i64 0, .int .u32 0, .int .i64 0], .int .i64 7]) ((run_results_cell_tmp rfl _ _ _ _ _ _ _ rfl (setRow_heap _ _ _ _ _ _ HZ.out) Try.underlying36 rfl (by kernel_rfl)).trans rfl) rfl ⟨rfl, below_setRow (al (rf w) _) (Nat.le_refl _) _⟩
def bestU (rv : Nat → Option R4) : Nat → R4 × Int
  | 0 => (⟨0, 0, 0, 0⟩, 7)
  | k + 1 => match rv k with
    | some r => (r, 0)
    | none => bestU rv k
def Rts (w : World) (d : Nat) (rs : Nat → Value) (rv : Nat → Option R4) : Prop :=
  ∀ j, j ≤ d → (rv j = none ∧ rs j = nilS) ∨ ∃ r h cap cs, rv j = some r ∧ rs j = .slice (some ⟨h, 0, none⟩) 1 cap ∧ 1 ≤ cap ∧ Blk w h 36 cs ∧ cs.toList.take 4 = r.cs
def xk (d : Nat) (g : Nat → Nat) (k : Nat) : Value := if k ≤ d then .pointer (some ⟨g k, 0, none⟩) else .pointer none
theorem kid_xk {a d : Nat} {g : Nat → Nat} {k : Nat} : kid a d g k (bt a k) = xk d g (k + 1) := by
  unfold kid xk
  by_cases h : k < d
  · rw [if_pos ⟨h, rfl⟩, if_pos (by omega)]
  · rw [if_neg (fun e => h e.1), if_neg (by omega)]
theorem take4 {cs : Array Value} {r : R4} (h : cs.toList.take 4 = r.cs) : cs[0]? = some (.int .u32 r.x) ∧ cs[1]? = some (.int .i64 r.y) ∧ cs[2]? = some (.int .u32 r.z) ∧ cs[3]? = some (.int .i64 r.u) := by
  have k : ∀ j, j < 4 → cs[j]? = r.cs[j]? := fun j hj => by
    rw [← h, List.getElem?_take_of_lt hj, Array.getElem?_toList]
  exact ⟨(k 0 (by omega)).trans rfl, (k 1 (by omega)).trans rfl, (k 2 (by omega)).trans rfl, (k 3 (by omega)).trans rfl⟩
theorem blk_other {w : World} {x b : Nat} {t : TypeId} {cs new : Array Value} (h : Blk w x t cs) (hne : x ≠ b) : Blk (w.setRow b new) x t cs := (setRow_other w b x new hne).trans h
set_option maxHeartbeats 3200000 in
theorem findC (w : World) (B a d : Nat) (g : Nat → Nat) (rs : Nat → Value) (n : Int) (Kp : List (Nat × Array Value)) (h : Ch w B a d g rs n Kp) (ha : a < 4294967296) (hd : d < 32) (rv : Nat → Option R4) (hr : Rts w d rs rv) :
    Calls Try.prog 10 #[.pointer (some ⟨g 0, 0, none⟩), .int .u32 a] w fun e w' => e = .returned (.tuple #[.agg (bestU rv (d + 1)).1.cs.toArray, .int .i64 (bestU rv (d + 1)).2]) ∧ Below w.heap.size w w' := by
  have Z0 := Lib.hid (Blk.new w 36 #[.int .u32 0, .int .i64 0, .int .u32 0, .int .i64 0])
  have Z1 := Lib.hid (Blk.new (w.alloc (.cells #[.int .u32 0, .int .i64 0, .int .u32 0, .int .i64 0] 36)) 36 #[.int .u32 0, .int .i64 0, .int .u32 0, .int .i64 0])
  have HC := Lib.hid h
  have HR := Lib.hid hr
  clear h hr
  go_enter Try.func10, Try.ntmps10
  go_wp2
  have B0 : Hid (Below w.heap.size w ((w.alloc (.cells #[.int .u32 0, .int .i64 0, .int .u32 0, .int .i64 0] 36)).alloc (.cells #[.int .u32 0, .int .i64 0, .int .u32 0, .int .i64 0] 36))) := ((rf w).alloc (Nat.le_refl _) _).alloc (by simp) _
  have ZA : Hid (Blk ((w.alloc (.cells #[.int .u32 0, .int .i64 0, .int .u32 0, .int .i64 0] 36)).alloc (.cells #[.int .u32 0, .int .i64 0, .int .u32 0, .int .i64 0] 36)) w.heap.size 36 #[.int .u32 0, .int .i64 0, .int .u32 0, .int .i64 0]) := Z0.out.alloc _
  have ZB : Hid (Blk ((w.alloc (.cells #[.int .u32 0, .int .i64 0, .int .u32 0, .int .i64 0] 36)).alloc (.cells #[.int .u32 0, .int .i64 0, .int .u32 0, .int .i64 0] 36)) (w.heap.size + 1) 36 #[.int .u32 0, .int .i64 0, .int .u32 0, .int .i64 0]) := by
    have h1 := Z1.out
    rw [show (w.alloc (.cells #[.int .u32 0, .int .i64 0, .int .u32 0, .int .i64 0] 36)).heap.size = w.heap.size + 1 by simp] at h1
    exact h1
  generalize (w.alloc (.cells #[.int .u32 0, .int .i64 0, .int .u32 0, .int .i64 0] 36)).alloc (.cells #[.int .u32 0, .int .i64 0, .int .u32 0, .int .i64 0] 36) = W at B0 ZA ZB ⊢
  clear Z0 Z1
  go_loopw [7, 8, 9] (fun ev x kv wr => ∃ k : Nat, k ≤ d + 1 ∧ ev = .int .i64 (bestU rv k).2 ∧ x = xk d g k ∧ kv = .int .i64 k ∧ Hid (Below w.heap.size w wr) ∧ Hid (Blk wr w.heap.size 36 #[.int .u32 0, .int .i64 0, .int .u32 0, .int .i64 0]) ∧ Hid (Blk wr (w.heap.size + 1) 36 (bestU rv k).1.cs.toArray)) (fun _ _ kv _ => d + 1 - (intOf kv).toNat)
  case atStart => exact ⟨0, by omega, rfl, rfl, rfl, B0.out, ZA.out, ZB.out⟩
  case round =>
    obtain ⟨k, hk, rfl, rfl, rfl, HB, HZ, HX⟩ := hrel
    by_cases hkd : k ≤ d
    · have ex : xk d g k = .pointer (some ⟨g k, 0, none⟩) := if_pos hkd
      rw [ex]
      clear ex
      obtain ⟨V, hV⟩ : ∃ V, xk d g (k + 1) = V := ⟨_, rfl⟩
      have HV := Lib.hid hV
      have hbt := bt_lt a k
      have i0 : (0 : Int) ≤ (bt a k : Nat) := by omega
      have i1 : ((bt a k : Nat) : Int) < 2 := by omega
      have k32 : k < 32 := by omega
      have n32 : ((k : Int) == 32) = false := by rw [beq_eq_false_iff_ne]; omega
      have YK : Hid (∀ ws, Below w.heap.size w ws → ws.cell? ⟨g k, 1 + bt a k, none⟩ = some V) := fun ws q => by
        have h1 := (HC.out.nx q).kidc hkd hbt
        rw [kid_xk, hV] at h1
        exact h1
      have Y0 : Hid (∀ ws, Below w.heap.size w ws → ws.cell? ⟨g k, 0, none⟩ = some (rs k)) := fun ws q => (HC.out.nx q).cell0 hkd
      have yk := YK.out wr HB.out
      have y0 := Y0.out wr HB.out
      have HB2 : Hid (∀ n, Below w.heap.size w (wr.drewN n)) := fun n => HB.out.trans ((dn (rf wr) n).mono HB.out.size)
      clear hV
      rcases HR.out k hkd with ⟨e1, e2⟩ | ⟨r, h, cap, cs, e1, e2, hcap, hblk, htk⟩
      · have e3 : bestU rv (k + 1) = bestU rv k := by show (match rv k with | some r => (r, 0) | none => bestU rv k) = _; rw [e1]
        have E3 := Lib.hid e3
        rw [e2] at y0
        unfold nilS at y0
        clear e1 e2 e3
        go_wp2
        go_quiet ((go_at_call 22; exact Calls.quiet_of (bitA a a k _ ha k32 rfl)))
        go_wp2
        go_roundw
        case rel => exact ⟨k + 1, by omega, by rw [E3.out], HV.out.symm, by go_num, HB2.out _, HZ.out, by rw [E3.out]; exact HX.out⟩
        case measure => simp [intOf]; omega
      · have e3 : bestU rv (k + 1) = (r, 0) := by show (match rv k with | some r => (r, 0) | none => bestU rv k) = _; rw [e1]
        have E3 := Lib.hid e3
        rw [e2] at y0
        have h4 := take4 htk
        have hb2 := hblk.nx HB.out
        have q0 : wr.cell? ⟨h, 0, none⟩ = some (.int .u32 r.x) := (hb2.cell 0).trans h4.1
        have q1 : wr.cell? ⟨h, 1, none⟩ = some (.int .i64 r.y) := (hb2.cell 1).trans h4.2.1
        have q2 : wr.cell? ⟨h, 2, none⟩ = some (.int .u32 r.z) := (hb2.cell 2).trans h4.2.2.1
        have q3 : wr.cell? ⟨h, 3, none⟩ = some (.int .i64 r.u) := (hb2.cell 3).trans h4.2.2.2
        clear e1 e2 e3 h4 hb2 hblk htk
        have HB3 : Hid (Below w.heap.size w (wr.setRow (w.heap.size + 1) r.cs.toArray)) := below_setRow HB.out (by omega) _
        have HB4 : Hid (∀ n, Below w.heap.size w ((wr.setRow (w.heap.size + 1) r.cs.toArray).drewN n)) := fun n => HB3.out.trans ((dn (rf _) n).mono HB3.out.size)
        have HZ3 : Hid (Blk (wr.setRow (w.heap.size + 1) r.cs.toArray) w.heap.size 36 #[.int .u32 0, .int .i64 0, .int .u32 0, .int .i64 0]) := blk_other HZ.out (by omega)
        have HX3 : Hid (Blk (wr.setRow (w.heap.size + 1) r.cs.toArray) (w.heap.size + 1) 36 r.cs.toArray) := setRow_heap _ _ _ _ _ _ HX.out
        have yk3 := YK.out _ HB3.out
        go_wp2_with (refine wpList_store_row rfl 36 (.tmp 6) (.tmp 32) rfl _ r.cs.toArray rfl rfl _ _ HX.out (by kernel_rfl) rfl (by kernel_rfl) ?_)
        go_quiet ((go_at_call 22; exact Calls.quiet_of (bitA a a k _ ha k32 rfl)))
        go_wp2
        go_roundw
        case rel => exact ⟨k + 1, by omega, by rw [E3.out], HV.out.symm, by go_num, HB4.out _, HZ3.out, by rw [E3.out]; exact HX3.out⟩
        case measure => simp [intOf]; omega
    · have ex : xk d g k = .pointer none := if_neg hkd
      rw [ex]
      clear ex
      have ek : k = d + 1 := by omega
      have EK := Lib.hid ek
      rw [ek] at HX ⊢
      clear ek hkd hk
      obtain ⟨bv, hbv⟩ : ∃ bv, bestU rv (d + 1) = bv := ⟨_, rfl⟩
      rw [hbv] at HX ⊢
      obtain ⟨r, ev⟩ := bv
      have q0 : wr.cell? ⟨w.heap.size + 1, 0, none⟩ = some (.int .u32 r.x) := HX.out.cell 0
      have q1 : wr.cell? ⟨w.heap.size + 1, 1, none⟩ = some (.int .i64 r.y) := HX.out.cell 1
      have q2 : wr.cell? ⟨w.heap.size + 1, 2, none⟩ = some (.int .u32 r.z) := HX.out.cell 2
      have q3 : wr.cell? ⟨w.heap.size + 1, 3, none⟩ = some (.int .i64 r.u) := HX.out.cell 3
      have BE : Hid (Below w.heap.size w (wr.setRow w.heap.size r.cs.toArray)) := below_setRow HB.out (Nat.le_refl _) _
      have HBV := Lib.hid hbv
      clear hbv
      go_wp2_with (refine wpList_store_row rfl 36 (.tmp 4) (.tmp 43) rfl _ r.cs.toArray rfl rfl _ _ HZ.out (by kernel_rfl) rfl (by kernel_rfl) ?_)
      exact bodyPost_ret (v := .tuple #[.agg r.cs.toArray, .int .i64 ev]) ((run_results_cell_tmp rfl _ _ _ _ _ _ _ rfl (setRow_heap _ _ _ _ _ _ HZ.out) Try.underlying36 rfl (by kernel_rfl)).trans rfl) rfl ⟨by rw [HBV.out], BE.out⟩
end Go.Proofs.Ytmboadgmhafedaa
