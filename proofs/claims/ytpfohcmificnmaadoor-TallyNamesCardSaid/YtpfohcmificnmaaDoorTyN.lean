/-
  Tally: the counters' names, and the map of their numbers (plain).
-/
import Derived.Test.YtpfohcmificnmaaDoorMem
import Derived.Maps.OwnOps
import Derived.Maps.OwnSet
import Derived.Lib.SplitLaws
import Derived.StringKeys
set_option linter.unusedVariables false
namespace Go.Proofs.YtpfohcmificnmaaDoor
open Go.RowKit Go.Maps

def nmL : List (List UInt8) := [[102, 114, 97, 109, 101, 115, 32, 105, 110], [102, 114, 97, 109, 101, 115, 32, 111, 117, 116], [110, 111, 116, 32, 111, 117, 114, 115], [109, 97, 108, 102, 111, 114, 109, 101, 100], [97, 114, 112, 32, 97, 115, 107, 101, 100], [97, 114, 112, 32, 108, 111, 115, 116], [102, 114, 97, 103, 109, 101, 110, 116, 115], [112, 117, 116, 32, 116, 111, 103, 101, 116, 104, 101, 114], [110, 111, 116, 32, 114, 111, 117, 116, 101, 100], [105, 99, 109, 112, 32, 116, 111, 108, 100], [105, 99, 109, 112, 32, 104, 101, 108, 100], [117, 100, 112, 32, 105, 110], [117, 100, 112, 32, 110, 111, 32, 112, 111, 114, 116], [116, 99, 112, 32, 105, 110], [116, 99, 112, 32, 115, 101, 110, 116, 32, 97, 103, 97, 105, 110], [116, 99, 112, 32, 114, 101, 115, 101, 116], [100, 114, 111, 112, 112, 101, 100, 32, 102, 117, 108, 108]]
def strT : ByteArray := ⟨#[102, 114, 97, 109, 101, 115, 32, 105, 110, 44, 102, 114, 97, 109, 101, 115, 32, 111, 117, 116, 44, 110, 111, 116, 32, 111, 117, 114, 115, 44, 109, 97, 108, 102, 111, 114, 109, 101, 100, 44, 97, 114, 112, 32, 97, 115, 107, 101, 100, 44, 97, 114, 112, 32, 108, 111, 115, 116, 44, 102, 114, 97, 103, 109, 101, 110, 116, 115, 44, 112, 117, 116, 32, 116, 111, 103, 101, 116, 104, 101, 114, 44, 110, 111, 116, 32, 114, 111, 117, 116, 101, 100, 44, 105, 99, 109, 112, 32, 116, 111, 108, 100, 44, 105, 99, 109, 112, 32, 104, 101, 108, 100, 44, 117, 100, 112, 32, 105, 110, 44, 117, 100, 112, 32, 110, 111, 32, 112, 111, 114, 116, 44, 116, 99, 112, 32, 105, 110, 44, 116, 99, 112, 32, 115, 101, 110, 116, 32, 97, 103, 97, 105, 110, 44, 116, 99, 112, 32, 114, 101, 115, 101, 116, 44, 100, 114, 111, 112, 112, 101, 100, 32, 102, 117, 108, 108]⟩
def nmAt (k : Nat) : List UInt8 := nmL.getD k []
def bsAt (k : Nat) : ByteArray := ⟨(nmAt k).toArray⟩
def nmC : List Value := nmL.map fun l => .string ⟨l.toArray⟩
theorem nmC_len : nmC.length = 17 := rfl
theorem nmC_at (k : Nat) (hk : k < 17) : nmC[k]? = some (.string (bsAt k)) := by
  have h : k < nmL.length := hk
  unfold nmC bsAt nmAt
  simp [h]
theorem bsAt_data (k : Nat) : (bsAt k).data.toList = nmAt k := by simp [bsAt]
theorem bsAt_size : ∀ k, k < 17 → (bsAt k).size ≤ 20 := by decide +kernel
theorem split_nm : Lib.splitK [44] 0 (strT.data.toList.count 44) strT.data.toList = nmL := by decide +kernel
theorem splitB_nm : (Lib.splitB ⟨#[44]⟩ 0 (Lib.countB strT ⟨#[44]⟩) strT).map Value.string = nmC ∧ Lib.countB strT ⟨#[44]⟩ + 1 = 17 := by
  have h1 := Lib.splitB_data ⟨#[44]⟩ 0 (Lib.countB strT ⟨#[44]⟩) strT
  have hc : Lib.countB strT ⟨#[44]⟩ = strT.data.toList.count 44 := Lib.count_one 44 strT.data.toList
  rw [hc] at h1 ⊢
  have e : (⟨#[44]⟩ : ByteArray).data.toList = [44] := rfl
  rw [e, split_nm] at h1
  refine ⟨?_, by decide +kernel⟩
  unfold nmC
  rw [← h1, List.map_map]
  apply List.map_congr_left
  intro x _
  show Value.string x = Value.string ⟨x.data.toList.toArray⟩
  simp
-- the number of a name: -1 is none
def numK : Nat → List UInt8 → Int
  | 0, _ => -1
  | k + 1, s => if nmAt k = s then k else numK k s
def numD (s : List UInt8) : Int := numK 17 s
theorem numK_lo (k : Nat) (s : List UInt8) : -1 ≤ numK k s := by
  induction k with
  | zero => exact Int.le_refl _
  | succ k ih => unfold numK; split <;> omega
theorem numK_hi (k : Nat) (s : List UInt8) : numK k s < k := by
  induction k with
  | zero => show (-1 : Int) < 0; omega
  | succ k ih => unfold numK; split <;> omega
theorem numD_at : ∀ k, k < 17 → numD (nmAt k) = k := by decide +kernel
def Dm : Nat → DataW Unit
  | 0 => .map []
  | k + 1 => (Dm k).put (.string (nmAt k)) (.lit (.int .i64 k))
theorem Dm_map (k : Nat) : IsMap (Dm k) := by
  induction k with
  | zero => exact isMap_empty
  | succ k ih => exact ih.put _ _
theorem Dm_has (k : Nat) (s : List UInt8) : Maps.has (Dm k) (.string s) = decide (0 ≤ numK k s) := by
  induction k with
  | zero => rfl
  | succ k ih =>
    unfold Dm numK
    by_cases h : nmAt k = s
    · subst h
      rw [if_pos rfl, has_put_same (Dm_map k) (show WideAt.IsKeyLit (.string (nmAt k)) from trivial)]
      simp
    · rw [if_neg h, has_put_other (fun e => h (by injection e with e; exact e.symm)), ih]
theorem Dm_at (k : Nat) (s : List UInt8) (z : DataW Unit) (h : 0 ≤ numK k s) : (Dm k).atKey (.string s) z = .lit (.int .i64 (numK k s)) := by
  induction k with
  | zero => exact absurd h (show ¬ (0 : Int) ≤ -1 by decide)
  | succ k ih =>
    unfold numK at h ⊢
    unfold Dm
    by_cases h' : nmAt k = s
    · subst h'
      rw [if_pos rfl, atKey_put_same (Dm_map k) (show WideAt.IsKeyLit (.string (nmAt k)) from trivial)]
    · rw [if_neg h'] at h ⊢
      rw [atKey_put_other (fun e => h' (by injection e with e; exact e.symm)), ih h]
theorem strK : Keyed Tryd.prog 9 := string_keyed Tryd.underlying9
theorem zeroI (w : World) : (zeroValue 3).run Tryd.prog w = .ok (.int .i64 0) w := by kernel_rfl
theorem keyS {s : ByteArray} (h : s.size ≤ maxLen) : keyOf Tryd.prog 9 (.string s) = some (.string s.data.toList) := WideMaps.keyOf_string_mk Tryd.underlying9 h

-- a board at block b
def bCs (cs : List Int) (d : Int) (m s : Value) : List Value := cs.map (fun x => Value.int .i64 x) ++ [.int .u32 d, .int .i32 0, .int .u32 0, m, s]
structure Full (w : World) (B b mb g c : Nat) : Prop where
  own : w.ownsMap Tryd.prog 9 (plainElem Tryd.prog 3) mb 17 (Dm 17)
  row : Blk w g 9 nmC.toArray
  nb : mb ≠ b
  ng : g ≠ b
  lo : B ≤ mb ∧ B ≤ g
def IsB (w : World) (B b : Nat) (cs : List Int) : Prop :=
  cs.length = 17 ∧ B ≤ b ∧ (Blk w b 44 (bCs cs 0 (.map none) (.slice none 0 0)).toArray ∨
    ∃ mb g c, Blk w b 44 (bCs cs 1 (.map (some mb)) (.slice (some ⟨g, 0, none⟩) 17 c)).toArray ∧ Full w B b mb g c)
theorem Full.only {w w' : World} {B b mb g c : Nat} (h : Full w B b mb g c) (k : w.grownBy w' (some b)) : Full w' B b mb g c :=
  ⟨h.own.kept k (fun e => h.nb (by injection e)), h.row.only k h.ng, h.nb, h.ng, h.lo⟩
theorem Full.nx {w w' : World} {B b mb g c : Nat} (h : Full w B b mb g c) (k : Below w.heap.size w w') : Full w' B b mb g c :=
  ⟨h.own.kept (row := none) ⟨k.os, k.tape, k.output, k.size, fun i hi _ => k.block i hi⟩ (by simp), h.row.nx k, h.nb, h.ng, h.lo⟩
theorem IsB.nx {w w' : World} {B b : Nat} {cs : List Int} (h : IsB w B b cs) (k : Below w.heap.size w w') : IsB w' B b cs := by
  obtain ⟨h1, h2, h | ⟨mb, g, c, h, f⟩⟩ := h
  · exact ⟨h1, h2, .inl (h.nx k)⟩
  · exact ⟨h1, h2, .inr ⟨mb, g, c, h.nx k, f.nx k⟩⟩
theorem bCs_set (cs : List Int) (d : Int) (m s : Value) (n : Nat) (x : Int) (h : n < cs.length) : (bCs cs d m s).set n (.int .i64 x) = bCs (cs.set n x) d m s := by
  unfold bCs
  rw [List.set_append_left _ _ (by simpa using h), List.map_set]
theorem bCs_at (cs : List Int) (d : Int) (m s : Value) (n : Nat) (h : n < cs.length) : (bCs cs d m s)[n]? = some (.int .i64 cs[n]) := by
  unfold bCs
  rw [List.getElem?_append_left (by simpa using h)]
  simp [h]
-- a counter is written
theorem IsB.set_ {w : World} {B b : Nat} {cs : List Int} (h : IsB w B b cs) (n : Nat) (hn : n < 17) (x : Int) : IsB (w.setCell ⟨b, n, none⟩ (.int .i64 x)) B b (cs.set n x) := by
  have k : w.grownBy (w.setCell ⟨b, n, none⟩ (.int .i64 x)) (some b) := only_setCell (p := ⟨b, n, none⟩) (World.grownBy.refl _ _) (.inl rfl) _
  obtain ⟨h1, h2, h | ⟨mb, g, c, h, f⟩⟩ := h
  · refine ⟨by simpa using h1, h2, .inl ?_⟩
    have := h.set_ n (.int .i64 x)
    rwa [List.setIfInBounds_toArray, bCs_set _ _ _ _ _ _ (by omega)] at this
  · refine ⟨by simpa using h1, h2, .inr ⟨mb, g, c, ?_, f.only k⟩⟩
    have := h.set_ n (.int .i64 x)
    rwa [List.setIfInBounds_toArray, bCs_set _ _ _ _ _ _ (by omega)] at this
theorem IsB.cell {w : World} {B b : Nat} {cs : List Int} (h : IsB w B b cs) (n : Nat) (hn : n < cs.length) : w.cell? ⟨b, n, none⟩ = some (.int .i64 cs[n]) ∧ w.frozen? ⟨b, n, none⟩ = false := by
  obtain ⟨h1, h2, h | ⟨mb, g, c, h, f⟩⟩ := h
  · refine ⟨?_, h.frozen n⟩
    rw [h.cell, List.getElem?_toArray, bCs_at _ _ _ _ _ hn]
  · refine ⟨?_, h.frozen n⟩
    rw [h.cell, List.getElem?_toArray, bCs_at _ _ _ _ _ hn]
end Go.Proofs.YtpfohcmificnmaaDoor
