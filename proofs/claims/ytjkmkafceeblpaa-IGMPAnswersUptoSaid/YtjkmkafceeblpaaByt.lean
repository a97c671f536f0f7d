/-
  Slices of bytes that read as lists.
-/
import Derived.Test.YtjkmkafceeblpaaW
set_option linter.unusedVariables false
namespace Go.Proofs.Ytjkmkafceeblpaa
open Go.RowKit

theorem stB : SliceTy Try.prog 22 5 1 1 (.int .u8 0) := ⟨Try.underlying22, by kernel_rfl, rfl, by omega⟩
-- a slice of bytes that reads as a list
def Bytes (w : World) (A : Option Addr) (l : List UInt8) : Prop := Reads w w.heap.size 1 A l.length (Lib.byteCells l)
theorem Bytes.nx {w w' : World} {A : Option Addr} {l : List UInt8} (h : Bytes w A l) (k : Below w.heap.size w w') : Bytes w' A l := (Reads.below h k).more k.size
theorem Bytes.al {w : World} {A : Option Addr} {l : List UInt8} (h : Bytes w A l) (o : Obj) : Bytes (w.alloc o) A l := h.nx ((Below.refl _ _).alloc (Nat.le_refl _) o)
theorem Bytes.nil (w : World) (A : Option Addr) : Bytes w A [] := ⟨by simp [Lib.byteCells], fun h => absurd h (by simp)⟩
theorem one_u8 (l : List UInt8) : ∀ u ∈ Lib.byteCells l, u.oneCell' = true := by
  intro u hu
  obtain ⟨x, _, rfl⟩ := List.mem_map.1 hu
  rfl
theorem byteCells_app (a b : List UInt8) : Lib.byteCells (a ++ b) = Lib.byteCells a ++ Lib.byteCells b := by simp [Lib.byteCells]
theorem byteCells_at (l : List UInt8) (i : Nat) (h : i < l.length) : (Lib.byteCells l)[i]? = some (.int .u8 l[i].toNat) := by
  simp [Lib.byteCells, h]
theorem byteCells_len (l : List UInt8) : (Lib.byteCells l).length = l.length := by simp [Lib.byteCells]
theorem Bytes.at_ {w : World} {A : Option Addr} {l : List UInt8} (h : Bytes w A l) {k : Nat} (hk : k < l.length) : ∃ ad, A = some ad ∧ ad.block < w.heap.size ∧ w.cell? (ad.add k) = some (.int .u8 l[k].toNat) := by
  obtain ⟨ad, u, hA, hb, hu, hc⟩ := Reads.at_ h hk
  rw [byteCells_at l k hk] at hu
  exact ⟨ad, hA, hb, hc.trans hu.symm⟩
theorem Bytes.own {w : World} {base : Nat} {A : Option Addr} {c : Nat} {l : List UInt8} (h : w.ownsRow base 5 1 (.slice A l.length c) l.length (Lib.byteCells l)) : Bytes w A l := Reads.of_own h

theorem blk_bytes {w : World} {g : Nat} {t : TypeId} {cs : Array Value} (h : Blk w g t cs) (o : Nat) (l : List UInt8) (hc : ∀ i, (hi : i < l.length) → cs[o + i]? = some (.int .u8 l[i].toNat)) : Bytes w (some ⟨g, o, none⟩) l :=
  ⟨by simp [Lib.byteCells], fun _ => ⟨_, rfl, h.lt, fun j u hu => by
    by_cases hj : j < l.length
    · rw [byteCells_at l j hj] at hu
      rw [Addr.add_mid, h.cell, hc j hj]; exact hu
    · rw [List.getElem?_eq_none (by rw [byteCells_len]; omega)] at hu; cases hu⟩⟩
-- 'make([]byte, n)': n noughts
theorem made_at (n j : Nat) (h : j < n) : (madeCells #[.int .u8 0] n)[j]? = some (.int .u8 0) := by
  simp [madeCells, h, Nat.mod_one]
theorem run_make_bytes (n : Nat) (hn : n ≤ 1099511627776) (x : Int) (hx : x = n) (W : World) :
    (Instr.makeSlice 22 (.int .i64 x) (.int .i64 x)).run Try.prog W = .ok (.slice (some ⟨W.heap.size, 0, none⟩) n n) (W.alloc (.cells (madeCells #[.int .u8 0] n) 5)) := by
  subst hx
  obtain ⟨i, hi, hz0, hz1, hz2⟩ := info_parts stB.hi
  have h := run_make_rowN (P := Try.prog) 22 5 i _ stB.ht hi hz0 .i64 .i64 n n (Nat.le_refl _) (by rw [hz2]; omega) (by omega) W
  rw [h, hz1, Nat.mul_one]; rfl
theorem made_bytes {w : World} {g n : Nat} {t : TypeId} (h : Blk w g t (madeCells #[.int .u8 0] n)) : Bytes w (some ⟨g, 0, none⟩) (List.replicate n 0) :=
  blk_bytes h 0 _ (fun i hi => by
    have hi' : i < n := by simpa using hi
    rw [Nat.zero_add, made_at n i hi']; simp)
end Go.Proofs.Ytjkmkafceeblpaa
