/-
  IP: a packet, an address and numbers as arguments.
-/
import Derived.Test.YthjpdaflgphbbaaDoorOpen
import Derived.Test.YthjpdaflgphbbaaDoorIpM
set_option linter.unusedVariables false
namespace Go.Proofs.YthjpdaflgphbbaaDoor
open Go.ChangeShapes Go.WideShapes Go.ChangeAt Go.RowKit
set_option maxRecDepth 100000

theorem wf_i64 {n : Int} (h : (Lit.int .i64 n).wf = true) : -9223372036854775808 ≤ n ∧ n ≤ 9223372036854775807 := by
  constructor <;> (simp [Lit.wf, IntKind.min, IntKind.max, IntKind.signed, IntKind.bits] at h; omega)
theorem open_i64x {H : Type} {enc : TypeId × Value → H} {w : World} {base b0 : Nat} {r : Reach} {sp : Nat → Bool} {held : Bool} {v : Value} {d : DataW H} {p : List MemPlace}
    (hv : Value.okWide Tryd.prog w r b0 3 v) (h : DataW.Trod enc Tryd.prog w base sp held 3 v d p) : ∃ n, v = .int .i64 n ∧ -9223372036854775808 ≤ n ∧ n ≤ 9223372036854775807 := by
  obtain ⟨k, rfl⟩ := okWide_int Tryd.underlying3 hv
  obtain ⟨fuel, hf⟩ := h
  obtain ⟨n, h1, _, h2⟩ := DataW.trod_int Tryd.underlying3 hf
  simp [Value.cells] at h1
  subst h1
  exact ⟨_, rfl, wf_i64 h2⟩
theorem open_u8x {H : Type} {enc : TypeId × Value → H} {w : World} {base b0 : Nat} {r : Reach} {sp : Nat → Bool} {held : Bool} {v : Value} {d : DataW H} {p : List MemPlace}
    (hv : Value.okWide Tryd.prog w r b0 5 v) (h : DataW.Trod enc Tryd.prog w base sp held 5 v d p) : ∃ n : Nat, v = .int .u8 n ∧ n < 256 := by
  obtain ⟨k, rfl⟩ := okWide_int Tryd.underlying5 hv
  obtain ⟨fuel, hf⟩ := h
  obtain ⟨n, h1, _, h2⟩ := DataW.trod_int Tryd.underlying5 hf
  simp [Value.cells] at h1
  subst h1
  have h3 := bounds_u8 h2
  exact ⟨k.toNat, by congr 1; omega, by omega⟩
theorem trod_u32 {H : Type} {enc : TypeId × Value → H} {P : Program} {w : World} {base : Nat} {sp : Nat → Bool} {held : Bool} {t : TypeId} {fuel : Nat} {cs : List Value} {x : DataW H × List MemPlace} (ht : P.underlying t = some (.int .u32)) (h : DataW.trod enc P w base sp held fuel t cs = some x) : ∃ n : Nat, cs = [.int .u32 n] ∧ n < 4294967296 := by
  obtain ⟨n, h1, _, h2⟩ := DataW.trod_int ht h
  have h3 : 0 ≤ n ∧ n ≤ 4294967295 := by
    constructor <;> (simp [Lit.wf, IntKind.min, IntKind.max, IntKind.signed, IntKind.bits] at h2; omega)
  exact ⟨n.toNat, by rw [h1]; congr 2; omega, by omega⟩
theorem open_addr {H : Type} {enc : TypeId × Value → H} {w : World} {base b0 : Nat} {r : Reach} {sp : Nat → Bool} {held : Bool} {v : Value} {d : DataW H} {p : List MemPlace}
    (hv : Value.okWide Tryd.prog w r b0 23 v) (h : DataW.Trod enc Tryd.prog w base sp held 23 v d p) : ∃ n : Nat, v = .int .u32 n ∧ n < 4294967296 := by
  obtain ⟨k, rfl⟩ := okWide_int Tryd.underlying23 hv
  obtain ⟨fuel, hf⟩ := h
  obtain ⟨n, h1, h2⟩ := trod_u32 Tryd.underlying23 hf
  simp [Value.cells] at h1
  exact ⟨n, by rw [h1], h2⟩
-- a packet of any lengths
structure AnyPk (w : World) (p : Pk) (o d : Value) : Prop where
  o : ∃ A c, o = .slice A p.op.length c ∧ Bytes w A p.op ∧ p.op.length ≤ c
  d : ∃ A c, d = .slice A p.da.length c ∧ Bytes w A p.da ∧ p.da.length ≤ c
  off : i64 p.off
  fr : p.fr < 4294967296
  to_ : p.to_ < 4294967296
  ol : p.op.length ≤ maxLen
  dl : p.da.length ≤ maxLen
theorem AnyPk.is {w : World} {p : Pk} {o d : Value} (h : AnyPk w p o d) (h1 : p.op.length ≤ 4000) (h2 : p.da.length ≤ 70000) : IsPk w p o d := ⟨h.o, h.d, h.off, h.fr, h.to_, h1, h2⟩
theorem open_packet {H : Type} {enc : TypeId × Value → H} {w : World} {base b0 : Nat} {r : Reach} {sp : Nat → Bool} {held : Bool} {v : Value} {d : DataW H} {p : List MemPlace}
    (hv : Value.okWide Tryd.prog w r b0 26 v) (h : DataW.Trod enc Tryd.prog w base sp held 26 v d p) : ∃ (q : Pk) (o e : Value), v = .agg (q.cs o e).toArray ∧ AnyPk w q o e := by
  obtain ⟨cs, rfl, hsz⟩ := okWide_struct Tryd.underlying26 hv
  obtain ⟨fuel, hf⟩ := h
  obtain ⟨xs, n, _, _, hcl, hxl, hg⟩ := DataW.trod_struct Tryd.underlying26 hf
  have c41 : Tryd.prog.cellsOf 26 = 11 := by kernel_rfl
  have c23 : Tryd.prog.cellsOf 23 = 1 := by kernel_rfl
  have c3 : Tryd.prog.cellsOf 3 = 1 := by kernel_rfl
  have c4 : Tryd.prog.cellsOf 4 = 1 := by kernel_rfl
  have c39 : Tryd.prog.cellsOf 24 = 1 := by kernel_rfl
  have g0 := hg 0 _ rfl
  have g1 := hg 1 _ rfl
  have g2 := hg 2 _ rfl
  have g3 := hg 3 _ rfl
  have g4 := hg 4 _ rfl
  have g5 := hg 5 _ rfl
  have g6 := hg 6 _ rfl
  have g7 := hg 7 _ rfl
  have g8 := hg 8 _ rfl
  have g9 := hg 9 _ rfl
  have g10 := hg 10 _ rfl
  simp only [Value.cells] at g0 g1 g2 g3 g4 g5 g6 g7 g8 g9 g10
  obtain ⟨l⟩ := cs
  rw [c41] at hsz
  match l, hsz with
  | [x0, x1, x2, x3, x4, x5, x6, x7, x8, x9, x10], _ =>
    rw [List.getElem?_eq_getElem (show 0 < xs.length by rw [hxl]; decide)] at g0
    rw [List.getElem?_eq_getElem (show 1 < xs.length by rw [hxl]; decide)] at g1
    rw [List.getElem?_eq_getElem (show 2 < xs.length by rw [hxl]; decide)] at g2
    rw [List.getElem?_eq_getElem (show 3 < xs.length by rw [hxl]; decide)] at g3
    rw [List.getElem?_eq_getElem (show 4 < xs.length by rw [hxl]; decide)] at g4
    rw [List.getElem?_eq_getElem (show 5 < xs.length by rw [hxl]; decide)] at g5
    rw [List.getElem?_eq_getElem (show 6 < xs.length by rw [hxl]; decide)] at g6
    rw [List.getElem?_eq_getElem (show 7 < xs.length by rw [hxl]; decide)] at g7
    rw [List.getElem?_eq_getElem (show 8 < xs.length by rw [hxl]; decide)] at g8
    rw [List.getElem?_eq_getElem (show 9 < xs.length by rw [hxl]; decide)] at g9
    rw [List.getElem?_eq_getElem (show 10 < xs.length by rw [hxl]; decide)] at g10
    obtain ⟨a0, h0, _, _⟩ := DataW.trod_int Tryd.underlying3 g0
    obtain ⟨a1, h1, _, _⟩ := DataW.trod_int Tryd.underlying3 g1
    obtain ⟨a2, h2, _⟩ := DataW.trod_bool Tryd.underlying4 g2
    obtain ⟨a3, h3, _⟩ := DataW.trod_bool Tryd.underlying4 g3
    obtain ⟨a4, h4, _, b4⟩ := DataW.trod_int Tryd.underlying3 g4
    obtain ⟨a5, h5, _, _⟩ := DataW.trod_int Tryd.underlying3 g5
    obtain ⟨a6, h6, _, _⟩ := DataW.trod_int Tryd.underlying3 g6
    obtain ⟨a7, h7, b7⟩ := trod_u32 Tryd.underlying23 g7
    obtain ⟨a8, h8, b8⟩ := trod_u32 Tryd.underlying23 g8
    obtain ⟨A, ol, oc, h9, i9, j9, k9⟩ := trod_bytes2 g9
    obtain ⟨B, dl, dc, h10, i10, j10, k10⟩ := trod_bytes2 g10
    simp [c23] at h7 h8
    simp [c3] at h0 h1 h4 h5 h6
    simp [c4] at h2 h3
    simp [c39] at h9 h10
    subst h0 h1 h2 h3 h4 h5 h6 h7 h8 h9 h10
    exact ⟨⟨a0, a1, a2, a3, a4, a5, a6, a7, a8, ol, dl⟩, _, _, rfl, ⟨A, oc, rfl, i9, k9⟩, ⟨B, dc, rfl, i10, k10⟩, wf_i64 b4, b7, b8, j9, j10⟩
end Go.Proofs.YthjpdaflgphbbaaDoor
