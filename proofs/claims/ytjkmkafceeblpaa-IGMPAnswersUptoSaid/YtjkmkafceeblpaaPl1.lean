/-
  Groups: the law's helpers messages and addrs.
-/
import Derived.Test.YtjkmkafceeblpaaRh6
import Derived.Test.YtjkmkafceeblpaaIgQ
set_option linter.unusedVariables false
namespace Go.Proofs.Ytjkmkafceeblpaa
open Go.RowKit

theorem neq_igmp (ty mx gr : Int) (w : World) : (binOp .neq 27 (.agg #[.int .i64 ty, .int .i64 mx, .int .u32 gr]) (.agg #[.int .i64 ty, .int .i64 mx, .int .u32 gr])).run Try.prog w = .ok (.bool false) w := by
  rw [run_neq_struct, run_equalIn_agg w 9999 27 _ _ (by unfold Program.fieldsOf; rw [Try.underlying27]) (by kernel_rfl)]
  unfold Program.fieldsOf
  rw [Try.underlying27]
  have h1 := fun (a b : Int) => run_equalIn_int (P := Try.prog) w 9998 3 .i64 .i64 a b Try.underlying3
  have h2 := fun (a b : Int) => run_equalIn_int (P := Try.prog) w 9998 25 .u32 .u32 a b Try.underlying25
  simp [Op.eqFields, part, Try.isAgg3, Try.isAgg25, h1, h2]
theorem flatM_at {ms : List (Int × Int × Int)} {i : Nat} {m : Int × Int × Int} (h : ms[i]? = some m) (j : Nat) (hj : j < 3) : (flatM ms)[i * 3 + j]? = ([.int .i64 m.1, .int .i64 m.2.1, .int .u32 m.2.2] : List Value)[j]? := by
  induction ms generalizing i with
  | nil => simp at h
  | cons q ms ih =>
    unfold flatM at ih ⊢
    rw [List.flatMap_cons]
    cases i with
    | zero =>
      simp only [List.getElem?_cons_zero, Option.some.injEq] at h
      subst h
      rw [Nat.zero_mul, Nat.zero_add, List.getElem?_append_left (by simpa using hj)]
    | succ i =>
      rw [List.getElem?_cons_succ] at h
      rw [List.getElem?_append_right (by simp; omega), show (i + 1) * 3 + j - ([.int .i64 q.1, .int .i64 q.2.1, .int .u32 q.2.2] : List Value).length = i * 3 + j by simp; omega]
      exact ih h
theorem own_at {w : World} {base size n i : Nat} {t : TypeId} {A : Option Addr} {c m : Nat} {xs : List Value} {u : Value} (h : w.ownsRow base t size (.slice A m c) n xs) (hu : xs[i]? = some u) (hn : 0 < n) : ∃ g, A = some ⟨g, 0, none⟩ ∧ w.cell? ⟨g, i, none⟩ = some u := by
  rcases h.2 with ⟨_, h0⟩ | ⟨g, c', cur, hv, hb, hg, hnc, hcm, hcl, htk⟩
  · omega
  · injection hv with hA
    refine ⟨g, hA, ?_⟩
    rw [Blk.cell hg]
    rw [← htk, List.getElem?_take] at hu
    split at hu
    · rw [← Array.getElem?_toList]; exact hu
    · cases hu
theorem outM_cells {w : World} {base q c : Nat} {A : Option Addr} {ms : List (Int × Int × Int)} (h : w.ownsRow base 27 3 (.slice A q c) q (flatM ms)) (hq : ms.length = q) {i : Nat} {m : Int × Int × Int} (hm : ms[i]? = some m) :
    ∃ g, A = some ⟨g, 0, none⟩ ∧ w.cell? ⟨g, i * 3, none⟩ = some (.int .i64 m.1) ∧ w.cell? ⟨g, i * 3 + 1, none⟩ = some (.int .i64 m.2.1) ∧ w.cell? ⟨g, i * 3 + 2, none⟩ = some (.int .u32 m.2.2) := by
  have hi := (List.getElem?_eq_some_iff.1 hm).1
  obtain ⟨g, h1, c0⟩ := own_at h ((flatM_at hm 0 (by omega)).trans rfl) (by omega)
  obtain ⟨g1, h2, c1⟩ := own_at h ((flatM_at hm 1 (by omega)).trans rfl) (by omega)
  obtain ⟨g2, h3, c2⟩ := own_at h ((flatM_at hm 2 (by omega)).trans rfl) (by omega)
  subst h1
  injection h2 with h2; injection h2 with h2; subst h2
  injection h3 with h3; injection h3 with h3; subst h3
  exact ⟨g, rfl, c0, c1, c2⟩
set_option maxHeartbeats 1600000 in
theorem messagesK (w : World) {b1 b2 : Nat} {V1 V2 : Value} {ms : List (Int × Int × Int)} (o1 : w.ownsRow b1 27 3 V1 ms.length (flatM ms)) (o2 : w.ownsRow b2 27 3 V2 ms.length (flatM ms)) (hn : ms.length ≤ 1000) :
    Calls Try.prog 46 #[V1, V2] w fun e w' => e = .returned (.bool true) ∧ Below w.heap.size w w' := by
  obtain ⟨A1, c1, rfl⟩ := own_slice (size := 3) o1
  obtain ⟨A2, c2, rfl⟩ := own_slice (size := 3) o2
  obtain ⟨q, hq⟩ : ∃ q, ms.length = q := ⟨_, rfl⟩
  rw [hq] at o1 o2 hn ⊢
  have O1 := Lib.hid o1
  have O2 := Lib.hid o2
  have HQ := Lib.hid hq
  clear o1 o2 hq
  have hneq := neq_igmp
  go_enter Try.func46, Try.ntmps46
  go_wp2
  go_loopw [5] (fun iv wr => ∃ k : Nat, iv = .int .i64 k ∧ k ≤ q ∧ Hid (Below w.heap.size w wr)) (fun iv _ => q - (intOf iv).toNat)
  case atStart => exact ⟨0, rfl, Nat.zero_le _, rf w⟩
  case round =>
    obtain ⟨k, rfl, hk, Bk⟩ := hrel
    by_cases hkq : k < q
    · have k0 : (0 : Int) ≤ k := by omega
      have k1 : (k : Int) < q := by omega
      obtain ⟨m, hm⟩ : ∃ m, ms[k]? = some m := ⟨_, List.getElem?_eq_getElem (by rw [HQ.out]; exact hkq)⟩
      obtain ⟨g1, hA1, x0, x1, x2⟩ := outM_cells (own_nx O1.out Bk.out) HQ.out hm
      obtain ⟨g2, hA2, y0, y1, y2⟩ := outM_cells (own_nx O2.out Bk.out) HQ.out hm
      subst hA1
      subst hA2
      obtain ⟨a, b, d⟩ := m
      clear hm
      have BD := Lib.hid (nx Bk.out ((rf wr).drew))
      go_wp2
      go_region
      go_wp2
      go_roundw
      case rel => exact ⟨k + 1, by go_num, by omega, BD.out⟩
      case measure => simp [intOf]; omega
    · obtain rfl : k = q := by omega
      go_wp2
      go_ret
      exact ⟨rfl, Bk.out⟩
set_option maxHeartbeats 1600000 in
theorem addrsK (w : World) {b1 b2 : Nat} {V1 V2 : Value} {l : List Int} (o1 : w.ownsRow b1 25 1 V1 l.length (addrC l)) (o2 : w.ownsRow b2 25 1 V2 l.length (addrC l)) (hn : l.length ≤ 1000) :
    Calls Try.prog 24 #[V1, V2] w fun e w' => e = .returned (.bool true) ∧ Below w.heap.size w w' := by
  obtain ⟨A1, c1, rfl⟩ := own_slice (size := 1) o1
  obtain ⟨A2, c2, rfl⟩ := own_slice (size := 1) o2
  obtain ⟨q, hq⟩ : ∃ q, l.length = q := ⟨_, rfl⟩
  rw [hq] at o1 o2 hn ⊢
  have O1 := Lib.hid o1
  have O2 := Lib.hid o2
  have HQ := Lib.hid hq
  clear o1 o2 hq
  go_enter Try.func24, Try.ntmps24
  go_wp2
  go_loopw [5] (fun iv wr => ∃ k : Nat, iv = .int .i64 k ∧ k ≤ q ∧ Hid (Below w.heap.size w wr)) (fun iv _ => q - (intOf iv).toNat)
  case atStart => exact ⟨0, rfl, Nat.zero_le _, rf w⟩
  case round =>
    obtain ⟨k, rfl, hk, Bk⟩ := hrel
    by_cases hkq : k < q
    · have k0 : (0 : Int) ≤ k := by omega
      have k1 : (k : Int) < q := by omega
      obtain ⟨m, hm⟩ : ∃ m, l[k]? = some m := ⟨_, List.getElem?_eq_getElem (by rw [HQ.out]; exact hkq)⟩
      have hm' : (addrC l)[k]? = some (.int .u32 m) := by unfold addrC; rw [List.getElem?_map, hm]; rfl
      obtain ⟨g1, hA1, x0⟩ := own_at (own_nx O1.out Bk.out) hm' (by omega)
      obtain ⟨g2, hA2, y0⟩ := own_at (own_nx O2.out Bk.out) hm' (by omega)
      subst hA1
      subst hA2
      clear hm hm'
      have BD := Lib.hid (nx Bk.out ((rf wr).drew))
      go_wp2
      go_region
      go_wp2
      go_roundw
      case rel => exact ⟨k + 1, by go_num, by omega, BD.out⟩
      case measure => simp [intOf]; omega
    · obtain rfl : k = q := by omega
      go_wp2
      go_ret
      exact ⟨rfl, Bk.out⟩
end Go.Proofs.Ytjkmkafceeblpaa
