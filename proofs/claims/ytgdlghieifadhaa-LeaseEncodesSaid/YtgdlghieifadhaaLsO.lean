/-
  Arguments opened: a message of a lease, an address of six bytes.
-/
import Derived.Test.YtgdlghieifadhaaLaw
import Derived.Test.YtgdlghieifadhaaLs
set_option linter.unusedVariables false
namespace Go.Proofs.Ytgdlghieifadhaa
open Go.ChangeShapes Go.WideShapes Go.ChangeAt Go.RowKit

theorem m6_of {xs : List Int} (hl : xs.length = 6) : ∃ m : M6, xs = m.l := by
  match xs, hl with
  | [a, b, c, d, e, f], _ => exact ⟨⟨a, b, c, d, e, f⟩, rfl⟩
theorem open_mac6 {H : Type} {enc : TypeId × Value → H} {w : World} {base b0 : Nat} {r : Reach} {sp : Nat → Bool} {held : Bool} {v : Value} {d : DataW H} {p : List MemPlace}
    (hv : Value.okWide Try.prog w r b0 25 v) (h : DataW.Trod enc Try.prog w base sp held 25 v d p) : ∃ m : M6, v = m.v := by
  obtain ⟨xs, rfl, hl, _⟩ := open_array_ints Try.underlying25 Try.underlying5 (by kernel_rfl) (by kernel_rfl) hv h
  obtain ⟨m, rfl⟩ := m6_of hl
  exact ⟨m, rfl⟩
theorem trod_lease {H : Type} {enc : TypeId × Value → H} {w : World} {base : Nat} {sp : Nat → Bool} {held : Bool} {fuel : Nat} {cs : List Value} {x : DataW H × List MemPlace}
    (hsz : cs.length = 16) (hf : DataW.trod enc Try.prog w base sp held fuel 27 cs = some x) : ∃ m : Ls, cs = m.cs := by
  obtain ⟨xs, n, _, _, hcl, hxl, hg⟩ := DataW.trod_struct Try.underlying27 hf
  have c25 : Try.prog.cellsOf 25 = 6 := by kernel_rfl
  have c3 : Try.prog.cellsOf 3 = 1 := by kernel_rfl
  have c22 : Try.prog.cellsOf 22 = 1 := by kernel_rfl
  have c23 : Try.prog.cellsOf 23 = 1 := by kernel_rfl
  have g0 := hg 0 _ rfl
  have g1 := hg 1 _ rfl
  have g2 := hg 2 _ rfl
  have g3 := hg 3 _ rfl
  have g4 := hg 4 _ rfl
  have g5 := hg 5 _ rfl
  have g6 := hg 6 _ rfl
  have g7 := hg 7 _ rfl
  have g8 := hg 8 _ rfl
  have g9 := hg 9 _ rfl
  have g10 := hg 10 _ rfl
  match cs, hsz with
  | [x0, x1, x2, x3, x4, x5, x6, x7, x8, x9, x10, x11, x12, x13, x14, x15], _ =>
    rw [List.getElem?_eq_getElem (show 0 < xs.length by rw [hxl]; decide)] at g0
    rw [List.getElem?_eq_getElem (show 1 < xs.length by rw [hxl]; decide)] at g1
    rw [List.getElem?_eq_getElem (show 2 < xs.length by rw [hxl]; decide)] at g2
    rw [List.getElem?_eq_getElem (show 3 < xs.length by rw [hxl]; decide)] at g3
    rw [List.getElem?_eq_getElem (show 4 < xs.length by rw [hxl]; decide)] at g4
    rw [List.getElem?_eq_getElem (show 5 < xs.length by rw [hxl]; decide)] at g5
    rw [List.getElem?_eq_getElem (show 6 < xs.length by rw [hxl]; decide)] at g6
    rw [List.getElem?_eq_getElem (show 7 < xs.length by rw [hxl]; decide)] at g7
    rw [List.getElem?_eq_getElem (show 8 < xs.length by rw [hxl]; decide)] at g8
    rw [List.getElem?_eq_getElem (show 9 < xs.length by rw [hxl]; decide)] at g9
    rw [List.getElem?_eq_getElem (show 10 < xs.length by rw [hxl]; decide)] at g10
    obtain ⟨k0, h0, _, _⟩ := DataW.trod_int Try.underlying3 g0
    obtain ⟨k1, h1, _, _⟩ := DataW.trod_int Try.underlying22 g1
    obtain ⟨k2, h2, _, _⟩ := DataW.trod_int Try.underlying23 g2
    obtain ⟨ys, h3, h3l, _⟩ := trod_ints Try.underlying25 Try.underlying5 (by kernel_rfl) c25 g3
    obtain ⟨k4, h4, _, _⟩ := DataW.trod_int Try.underlying3 g4
    obtain ⟨k5, h5, _, _⟩ := DataW.trod_int Try.underlying23 g5
    obtain ⟨k6, h6, _, _⟩ := DataW.trod_int Try.underlying23 g6
    obtain ⟨k7, h7, _, _⟩ := DataW.trod_int Try.underlying3 g7
    obtain ⟨k8, h8, _, _⟩ := DataW.trod_int Try.underlying23 g8
    obtain ⟨k9, h9, _, _⟩ := DataW.trod_int Try.underlying23 g9
    obtain ⟨k10, h10, _, _⟩ := DataW.trod_int Try.underlying23 g10
    obtain ⟨mm, rfl⟩ := m6_of h3l
    simp [c3] at h0
    simp [c22] at h1
    simp [c23] at h2
    simp [M6.l] at h3
    simp [c3] at h4
    simp [c23] at h5
    simp [c23] at h6
    simp [c3] at h7
    simp [c23] at h8
    simp [c23] at h9
    simp [c23] at h10
    obtain ⟨rfl, rfl, rfl, rfl, rfl, rfl⟩ := h3
    subst h0 h1 h2 h4 h5 h6 h7 h8 h9 h10
    exact ⟨⟨k0, k1, k2, mm, k4, k5, k6, k7, k8, k9, k10⟩, rfl⟩
theorem open_lease {H : Type} {enc : TypeId × Value → H} {w : World} {base b0 : Nat} {r : Reach} {sp : Nat → Bool} {held : Bool} {v : Value} {d : DataW H} {p : List MemPlace}
    (hv : Value.okWide Try.prog w r b0 27 v) (h : DataW.Trod enc Try.prog w base sp held 27 v d p) : ∃ m : Ls, v = .agg m.cs.toArray := by
  obtain ⟨cs, rfl, hsz⟩ := okWide_struct Try.underlying27 hv
  obtain ⟨fuel, hf⟩ := h
  have c27 : Try.prog.cellsOf 27 = 16 := by kernel_rfl
  obtain ⟨m, hm⟩ := trod_lease (by simp only [Value.cells]; rw [Array.length_toList, hsz, c27]) hf
  refine ⟨m, ?_⟩
  rw [← hm]; simp [Value.cells]
end Go.Proofs.Ytgdlghieifadhaa
