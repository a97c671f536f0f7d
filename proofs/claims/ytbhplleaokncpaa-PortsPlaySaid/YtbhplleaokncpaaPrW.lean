/-
  Ports: the reference's Find.
-/
import Derived.Test.YtbhplleaokncpaaPrV
import Derived.Test.YtbhplleaokncpaaLex
set_option linter.unusedVariables false
namespace Go.Proofs.Ytbhplleaokncpaa
open Go.RowKit

-- q is the one that is found, among those that R lets through
def Top (L : List Rp) (d : Dg) (R : Nat → Prop) (q : Rp) : Prop := (∃ j, L[j]? = some q ∧ R j) ∧ 0 ≤ worthR q d ∧ ∀ (j : Nat) (p : Rp), L[j]? = some p → R j → worthR p d < worthR q d ∨ (worthR p d = worthR q d ∧ q.id ≤ p.id)
def Fd (L : List Rp) (d : Dg) (k : Nat) (b i : Int) : Prop :=
  (b = -1 ∧ i = -1 ∧ ∀ (j : Nat) (p : Rp), L[j]? = some p → j < k → worthR p d < 0) ∨ ∃ q, b = worthR q d ∧ i = q.id ∧ Top L d (fun j => j < k) q
theorem worth_lo (q : Rp) (d : Dg) : -1 ≤ worthR q d ∧ worthR q d ≤ 3 := by
  unfold worthR
  (repeat' split) <;> omega
theorem Fd.take {L : List Rp} {d : Dg} {k : Nat} {b i : Int} {q : Rp} (h : Fd L d k b i) (hq : L[k]? = some q) (hb : b < worthR q d ∨ (worthR q d = b ∧ 0 ≤ worthR q d ∧ q.id < i)) : Fd L d (k + 1) (worthR q d) q.id := by
  refine .inr ⟨q, rfl, rfl, ⟨k, hq, by omega⟩, ?_, fun j p hp hj => ?_⟩
  · rcases h with ⟨rfl, _⟩ | ⟨q', rfl, _, ⟨_, h0, _⟩⟩ <;> omega
  · by_cases e : j = k
    · subst e
      rw [hq] at hp
      injection hp with hp
      subst hp
      exact .inr ⟨rfl, Int.le_refl _⟩
    · rcases h with ⟨rfl, rfl, h1⟩ | ⟨q', rfl, rfl, ⟨_, h0, h1⟩⟩
      · have := h1 j p hp (by omega)
        have := (worth_lo p d).1
        have := (worth_lo q d).1
        omega
      · have := h1 j p hp (by omega)
        omega
theorem Fd.keep {L : List Rp} {d : Dg} {k : Nat} {b i : Int} {q : Rp} (h : Fd L d k b i) (hq : L[k]? = some q) (hb : ¬ (b < worthR q d ∨ (worthR q d = b ∧ 0 ≤ worthR q d ∧ q.id < i))) : Fd L d (k + 1) b i := by
  rcases h with ⟨rfl, rfl, h1⟩ | ⟨q', rfl, rfl, ⟨⟨j0, hj0, hjk⟩, h0, h1⟩⟩
  · refine .inl ⟨rfl, rfl, fun j p hp hj => ?_⟩
    by_cases e : j = k
    · subst e
      rw [hq] at hp
      injection hp with hp
      subst hp
      have := (worth_lo q d).1
      omega
    · exact h1 j p hp (by omega)
  · refine .inr ⟨q', rfl, rfl, ⟨j0, hj0, by omega⟩, h0, fun j p hp hj => ?_⟩
    by_cases e : j = k
    · subst e
      rw [hq] at hp
      injection hp with hp
      subst hp
      omega
    · exact h1 j p hp (by omega)
def rfindV (L : List Rp) (d : Dg) (v : Value) : Prop :=
  (v = .tuple #[.int .i64 (-1), .bool false] ∧ ∀ p ∈ L, worthR p d < 0) ∨ ∃ q, v = .tuple #[.int .i64 q.id, .bool true] ∧ Top L d (fun _ => True) q
theorem Fd.out {L : List Rp} {d : Dg} {b i : Int} (h : Fd L d L.length b i) : rfindV L d (.tuple #[.int .i64 i, .bool (decide (0 ≤ b))]) := by
  rcases h with ⟨rfl, rfl, h1⟩ | ⟨q', rfl, rfl, ⟨⟨j0, hj0, hjk⟩, h0, h1⟩⟩
  · refine .inl ⟨rfl, fun p hp => ?_⟩
    obtain ⟨j, hj⟩ := List.getElem?_of_mem hp
    exact h1 j p hj (List.getElem?_eq_some_iff.1 hj).1
  · exact .inr ⟨q', by rw [decide_eq_true h0], ⟨j0, hj0, trivial⟩, h0, fun j p hp _ => h1 j p hp (List.getElem?_eq_some_iff.1 hp).1⟩
set_option maxRecDepth 100000 in
set_option maxHeartbeats 3200000 in
theorem rfindC (B rb : Nat) (L : List Rp) (d : Dg) (w : World) (h : IsRf w B rb L) (hl : L.length ≤ 64) :
    Calls Try.prog 42 #[.pointer (some ⟨rb, 0, none⟩), .agg d.cs.toArray] w fun e w' => (∃ v, e = .returned v ∧ rfindV L d v) ∧ Below w.heap.size w w' := by
  have HH := Lib.hid h
  clear h
  have BX := Lib.hid (Blk.new w 37 d.cs.toArray)
  have B0 := Lib.hid (al (rf w) (.cells d.cs.toArray 37))
  unfold Dg.cs at BX B0 ⊢
  go_enter Try.func42, Try.ntmps42
  go_wp2
  go_loopw [6, 7, 8] (fun bv iv kv wr => ∃ (k : Nat) (b i : Int), bv = .int .i64 b ∧ iv = .int .i64 i ∧ kv = .int .i64 k ∧ k ≤ L.length ∧ Hid (Below (w.heap.size + 1) (w.alloc (.cells #[.int .u32 d.fr, .int .i64 d.frp, .int .u32 d.to_, .int .i64 d.top, d.data] 37)) wr) ∧ Hid (Fd L d k b i)) (fun _ _ kv _ => L.length - (intOf kv).toNat)
  case atStart => exact ⟨0, -1, -1, rfl, rfl, rfl, by omega, Below.refl _ _, .inl ⟨rfl, rfl, fun j p _ hk => by omega⟩⟩
  case round =>
    obtain ⟨k, b, i, rfl, rfl, rfl, hk, HB, HK⟩ := hrel
    have HW : Hid (Below w.heap.size w wr) := B0.out.trans (HB.out.mono (by omega))
    have HD : Hid (Blk wr w.heap.size 37 #[.int .u32 d.fr, .int .i64 d.frp, .int .u32 d.to_, .int .i64 d.top, d.data]) := BX.out.below HB.out (by omega)
    obtain ⟨A, c, c0, _, hcap, hrow⟩ := (HH.out.nx HW.out).look
    by_cases hlt : k < L.length
    · obtain ⟨q, hq⟩ : ∃ q, L[k]? = some q := ⟨_, List.getElem?_eq_getElem hlt⟩
      obtain ⟨g, rfl, hgB, hg, hne, hc, hf⟩ := hrow k q hq
      have hrb := (HH.out.nx HW.out).row
      obtain ⟨_, hrb0, _⟩ := hrb
      have hrbl := hrb0.lt
      have hdl := HD.out.lt
      have e0 : ∀ x : Bw wr, x.w.cell? ⟨rb, 0, none⟩ = some (.slice (some ⟨g, 0, none⟩) L.length c) := fun x => (x.h.cell (p := ⟨rb, 0, none⟩) hrbl).trans c0
      have x0 : ∀ x : Bw wr, x.w.cell? ⟨g, k * 5, none⟩ = some (.int .i64 q.id) := fun x => (x.h.cell (p := ⟨g, k * 5, none⟩) hg).trans (hc 0 (by omega))
      have x1 : ∀ x : Bw wr, x.w.cell? ⟨g, k * 5 + 1, none⟩ = some (.int .i64 q.port) := fun x => (x.h.cell (p := ⟨g, k * 5 + 1, none⟩) hg).trans (hc 1 (by omega))
      have x2 : ∀ x : Bw wr, x.w.cell? ⟨g, k * 5 + 2, none⟩ = some (.int .u32 q.a) := fun x => (x.h.cell (p := ⟨g, k * 5 + 2, none⟩) hg).trans (hc 2 (by omega))
      have x3 : ∀ x : Bw wr, x.w.cell? ⟨g, k * 5 + 3, none⟩ = some (.int .u32 q.peer) := fun x => (x.h.cell (p := ⟨g, k * 5 + 3, none⟩) hg).trans (hc 3 (by omega))
      have x4 : ∀ x : Bw wr, x.w.cell? ⟨g, k * 5 + 4, none⟩ = some (.int .i64 q.pp) := fun x => (x.h.cell (p := ⟨g, k * 5 + 4, none⟩) hg).trans (hc 4 (by omega))
      have y0 : ∀ x : Bw wr, x.w.cell? ⟨w.heap.size, 0, none⟩ = some (.int .u32 d.fr) := fun x => (x.h.cell (p := ⟨w.heap.size, 0, none⟩) hdl).trans (HD.out.cell 0)
      have y1 : ∀ x : Bw wr, x.w.cell? ⟨w.heap.size, 1, none⟩ = some (.int .i64 d.frp) := fun x => (x.h.cell (p := ⟨w.heap.size, 1, none⟩) hdl).trans (HD.out.cell 1)
      have y2 : ∀ x : Bw wr, x.w.cell? ⟨w.heap.size, 2, none⟩ = some (.int .u32 d.to_) := fun x => (x.h.cell (p := ⟨w.heap.size, 2, none⟩) hdl).trans (HD.out.cell 2)
      have y3 : ∀ x : Bw wr, x.w.cell? ⟨w.heap.size, 3, none⟩ = some (.int .i64 d.top) := fun x => (x.h.cell (p := ⟨w.heap.size, 3, none⟩) hdl).trans (HD.out.cell 3)
      have y4 : ∀ x : Bw wr, x.w.cell? ⟨w.heap.size, 4, none⟩ = some d.data := fun x => (x.h.cell (p := ⟨w.heap.size, 4, none⟩) hdl).trans (HD.out.cell 4)
      have k1 : (k : Int) < L.length := by omega
      have k0 : (0 : Int) ≤ k := by omega
      have c0' := c0
      have HQ := Lib.hid hq
      have hd1 := Lib.hid hlt
      clear hc hf hq hrow hne hgB hrb0
      go_wp2
      refine wp_region_below (by kernel_rfl) (by kernel_rfl) ?_
      repeat (go_big_quiet_step (first | (go_at_call 58; exact Calls.bw _ (worthC q d _)) | fail))
      refine wpQuiet_nil ?_
      intro _ hw'
      obtain ⟨y, rfl⟩ := hw'
      have z0 := e0 y
      have z1 := x0 y
      have HY : Hid (Below (w.heap.size + 1) (w.alloc (.cells #[.int .u32 d.fr, .int .i64 d.frp, .int .u32 d.to_, .int .i64 d.top, d.data] 37)) y.w) := HB.out.trans (y.h.mono (by omega))
      obtain ⟨v, hv⟩ : ∃ v, v = worthR q d := ⟨_, rfl⟩
      have hv4 := worth_lo q d
      have HT : Hid ((b < v ∨ (v = b ∧ 0 ≤ v ∧ q.id < i)) → Fd L d (k + 1) v q.id) := fun h => by rw [hv] at h ⊢; exact HK.out.take HQ.out h
      have HN : Hid (¬ (b < v ∨ (v = b ∧ 0 ≤ v ∧ q.id < i)) → Fd L d (k + 1) b i) := fun h => HK.out.keep HQ.out (by rw [hv] at h; exact h)
      rw [← hv]
      rw [← hv] at hv4
      clear e0 x0 x1 x2 x3 x4 y0 y1 y2 y3 y4 hv c0 c0'
      generalize hyy : y.w = W at *
      clear hyy
      by_cases t1 : b < v
      · have HF := Lib.hid (HT.out (.inl t1))
        go_wp2
        go_roundw
        case rel => exact ⟨k + 1, v, q.id, rfl, rfl, by go_num, by omega, HY.out, HF.out⟩
        case measure => have := hd1.out; simp [intOf]; omega
      · by_cases t2 : v = b
        · have r2 : ((v : Int) == b) = true := by rw [beq_iff_eq]; exact t2
          by_cases t3 : 0 ≤ v
          · by_cases t4 : q.id < i
            · have HF := Lib.hid (HT.out (.inr ⟨t2, t3, t4⟩))
              clear t2
              go_wp2
              go_roundw
              case rel => exact ⟨k + 1, v, q.id, rfl, rfl, by go_num, by omega, HY.out, HF.out⟩
              case measure => have := hd1.out; simp [intOf]; omega
            · have HF := Lib.hid (HN.out (by omega))
              clear t2
              go_wp2
              go_roundw
              case rel => exact ⟨k + 1, b, i, rfl, rfl, by go_num, by omega, HY.out, HF.out⟩
              case measure => have := hd1.out; simp [intOf]; omega
          · have HF := Lib.hid (HN.out (by omega))
            clear t2
            go_wp2
            go_roundw
            case rel => exact ⟨k + 1, b, i, rfl, rfl, by go_num, by omega, HY.out, HF.out⟩
            case measure => have := hd1.out; simp [intOf]; omega
        · have r2 : ((v : Int) == b) = false := by rw [beq_eq_false_iff_ne]; exact t2
          have HF := Lib.hid (HN.out (by omega))
          clear t2
          go_wp2
          go_roundw
          case rel => exact ⟨k + 1, b, i, rfl, rfl, by go_num, by omega, HY.out, HF.out⟩
          case measure => have := hd1.out; simp [intOf]; omega
    · have hkk : k = L.length := by omega
      have HE := Lib.hid (Fd.out (by have := HK.out; rw [hkk] at this; exact this : Fd L d L.length b i))
      go_wp2
      go_ret2
      exact ⟨⟨_, rfl, HE.out⟩, HW.out⟩
end Go.Proofs.Ytbhplleaokncpaa
