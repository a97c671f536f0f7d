/-
  Arguments opened: a slice of bytes.
-/
import Derived.Test.YtpfkmmmlocmakaaDoorLaw
import Derived.Test.YtpfkmmmlocmakaaDoorByt
set_option linter.unusedVariables false
namespace Go.Proofs.YtpfkmmmlocmakaaDoor
open Go.ChangeShapes Go.WideShapes Go.ChangeAt Go.RowKit
set_option maxRecDepth 100000

theorem ints_bytes : ∀ (xs : List Int), (∀ i ∈ xs, (Lit.int .u8 i).wf = true) → ∃ l : List UInt8, xs.map (Value.int .u8) = Lib.byteCells l ∧ l.length = xs.length
  | [], _ => ⟨[], rfl, rfl⟩
  | x :: xs, h => by
    obtain ⟨l, h1, h2⟩ := ints_bytes xs (fun i hi => h i (List.mem_cons_of_mem _ hi))
    have hx := bounds_u8 (h x List.mem_cons_self)
    refine ⟨UInt8.ofNat x.toNat :: l, ?_, by simp [h2]⟩
    have e : ((UInt8.ofNat x.toNat).toNat : Int) = x := by rw [UInt8.toNat_ofNat']; omega
    simp only [List.map_cons, Lib.byteCells] at h1 ⊢
    rw [h1, e]
set_option maxRecDepth 100000 in
theorem trod_bytes {H : Type} {enc : TypeId × Value → H} {w : World} {base : Nat} {sp : Nat → Bool} {held : Bool} {fuel : Nat} {cs : List Value} {x : DataW H × List MemPlace}
    (h : DataW.trod enc Tryd.prog w base sp held fuel 34 cs = some x) : ∃ A l c, cs = [.slice A l.length c] ∧ Bytes w A l ∧ l.length ≤ maxLen := by
  rcases open_ints Tryd.underlying34 Tryd.underlying5 (by kernel_rfl) h with ⟨rfl, _⟩ | ⟨a, len, cap, zs, rfl, _, hl, hm, hz, hx, hcell, hwz⟩
  · exact ⟨none, [], 0, rfl, Bytes.nil _ _, by simp⟩
  · have hlz : len ≤ zs.length := by rw [hz]; split <;> omega
    obtain ⟨l, h1, h2⟩ := ints_bytes (zs.take len) (fun i hi => hwz i (List.mem_of_mem_take hi))
    have h3 : l.length = len := by rw [h2, List.length_take]; omega
    refine ⟨some a, l, cap, by rw [h3], ⟨by rw [byteCells_len, Nat.mul_one], fun hn => ⟨a, rfl, ?_, fun j u hu => ?_⟩⟩, by rw [h3]; omega⟩
    · have hb := block_lt_of_cell (hcell 0 (by omega))
      rwa [block_of_add] at hb
    · rw [← h1, List.getElem?_map] at hu
      by_cases hj : j < len
      · rw [List.getElem?_take_of_lt hj, List.getElem?_eq_getElem (by omega)] at hu
        rw [hcell j (by omega), List.getD_eq_getElem?_getD, List.getElem?_eq_getElem (by omega)]
        exact hu
      · rw [List.getElem?_eq_none (by rw [List.length_take]; omega)] at hu; cases hu
theorem open_bytes {H : Type} {enc : TypeId × Value → H} {w : World} {base b0 : Nat} {r : Reach} {sp : Nat → Bool} {held : Bool} {v : Value} {d : DataW H} {p : List MemPlace}
    (hv : Value.okWide Tryd.prog w r b0 34 v) (h : DataW.Trod enc Tryd.prog w base sp held 34 v d p) : ∃ A l c, v = .slice A l.length c ∧ Bytes w A l ∧ l.length ≤ maxLen := by
  obtain ⟨A, len, cap, rfl⟩ := okWide_slice Tryd.underlying34 hv
  obtain ⟨fuel, hf⟩ := h
  obtain ⟨A', l, c, hcs, hb, hl⟩ := trod_bytes hf
  simp only [Value.cells, List.cons.injEq, and_true] at hcs
  exact ⟨A', l, c, by simpa using hcs, hb, hl⟩
set_option maxRecDepth 100000 in
theorem trod_bytes2 {H : Type} {enc : TypeId × Value → H} {w : World} {base : Nat} {sp : Nat → Bool} {held : Bool} {fuel : Nat} {cs : List Value} {x : DataW H × List MemPlace}
    (h : DataW.trod enc Tryd.prog w base sp held fuel 34 cs = some x) : ∃ A l c, cs = [.slice A l.length c] ∧ Bytes w A l ∧ l.length ≤ maxLen ∧ l.length ≤ c := by
  rcases open_ints Tryd.underlying34 Tryd.underlying5 (by kernel_rfl) h with ⟨rfl, _⟩ | ⟨a, len, cap, zs, rfl, _, hl, hm, hz, hx, hcell, hwz⟩
  · exact ⟨none, [], 0, rfl, Bytes.nil _ _, by simp, by simp⟩
  · have hlz : len ≤ zs.length := by rw [hz]; split <;> omega
    obtain ⟨l, h1, h2⟩ := ints_bytes (zs.take len) (fun i hi => hwz i (List.mem_of_mem_take hi))
    have h3 : l.length = len := by rw [h2, List.length_take]; omega
    refine ⟨some a, l, cap, by rw [h3], ⟨by rw [byteCells_len, Nat.mul_one], fun hn => ⟨a, rfl, ?_, fun j u hu => ?_⟩⟩, by rw [h3]; omega, by rw [h3]; exact hl⟩
    · have hb := block_lt_of_cell (hcell 0 (by omega))
      rwa [block_of_add] at hb
    · rw [← h1, List.getElem?_map] at hu
      by_cases hj : j < len
      · rw [List.getElem?_take_of_lt hj, List.getElem?_eq_getElem (by omega)] at hu
        rw [hcell j (by omega), List.getD_eq_getElem?_getD, List.getElem?_eq_getElem (by omega)]
        exact hu
      · rw [List.getElem?_eq_none (by rw [List.length_take]; omega)] at hu; cases hu
theorem open_bytes2 {H : Type} {enc : TypeId × Value → H} {w : World} {base b0 : Nat} {r : Reach} {sp : Nat → Bool} {held : Bool} {v : Value} {d : DataW H} {p : List MemPlace}
    (hv : Value.okWide Tryd.prog w r b0 34 v) (h : DataW.Trod enc Tryd.prog w base sp held 34 v d p) : ∃ A l c, v = .slice A l.length c ∧ Bytes w A l ∧ l.length ≤ maxLen ∧ l.length ≤ c := by
  obtain ⟨A, len, cap, rfl⟩ := okWide_slice Tryd.underlying34 hv
  obtain ⟨fuel, hf⟩ := h
  obtain ⟨A', l, c, hcs, hb, hl, hc⟩ := trod_bytes2 hf
  simp only [Value.cells, List.cons.injEq, and_true] at hcs
  exact ⟨A', l, c, by simpa using hcs, hb, hl, hc⟩
end Go.Proofs.YtpfkmmmlocmakaaDoor
