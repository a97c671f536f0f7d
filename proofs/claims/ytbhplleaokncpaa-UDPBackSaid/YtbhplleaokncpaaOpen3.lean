/-
  Arguments opened, with their weights: a slice of bytes and a datagram are no longer than the form's own reach.
-/
import Derived.Test.YtbhplleaokncpaaUdLaw
set_option linter.unusedVariables false
namespace Go.Proofs.Ytbhplleaokncpaa
open Go.ChangeShapes Go.WideShapes Go.ChangeAt Go.RowKit
set_option maxRecDepth 100000

def DatL {H : Type} (d : DataW H) (l : List UInt8) : Prop := (d = .nil ∧ l = []) ∨ ∃ es sp, d = .slice es sp ∧ es.length = l.length
theorem trod_bytes3 {H : Type} {enc : TypeId × Value → H} {w : World} {base : Nat} {sp : Nat → Bool} {held : Bool} {fuel : Nat} {cs : List Value} {x : DataW H × List MemPlace}
    (h : DataW.trod enc Try.prog w base sp held fuel 35 cs = some x) : ∃ A l c, cs = [.slice A l.length c] ∧ Bytes w A l ∧ l.length ≤ maxLen ∧ l.length ≤ c ∧ DatL x.1 l := by
  obtain ⟨A, l, c, rfl, hb, hl, hc⟩ := trod_bytes2 h
  refine ⟨A, l, c, rfl, hb, hl, hc, ?_⟩
  rcases open_ints Try.underlying35 Try.underlying5 (by kernel_rfl) h with ⟨h1, rfl⟩ | ⟨a, len, cap, zs, h1, _, h2, hm, hz, rfl, _, _⟩
  · injection h1 with h1 _; injection h1 with _ h1 _
    exact .inl ⟨rfl, List.eq_nil_of_length_eq_zero h1⟩
  · injection h1 with h1 _; injection h1 with _ h1 _
    refine .inr ⟨_, _, rfl, ?_⟩
    have hlz : len ≤ zs.length := by rw [hz]; split <;> omega
    simp [lits, List.length_take]; omega
theorem open_bytes3 {H : Type} {enc : TypeId × Value → H} {w : World} {base b0 : Nat} {r : Reach} {sp : Nat → Bool} {held : Bool} {v : Value} {d : DataW H} {p : List MemPlace}
    (hv : Value.okWide Try.prog w r b0 35 v) (h : DataW.Trod enc Try.prog w base sp held 35 v d p) : ∃ A l c, v = .slice A l.length c ∧ Bytes w A l ∧ l.length ≤ maxLen ∧ l.length ≤ c ∧ DatL d l := by
  obtain ⟨A, len, cap, rfl⟩ := okWide_slice Try.underlying35 hv
  obtain ⟨fuel, hf⟩ := h
  obtain ⟨A', l, c, hcs, hb, hl, hc, hd⟩ := trod_bytes3 hf
  simp only [Value.cells, List.cons.injEq, and_true] at hcs
  exact ⟨A', l, c, by simpa using hcs, hb, hl, hc, hd⟩
theorem datL_w {H : Type} {d : DataW H} {l : List UInt8} (hd : DatL d l) : l = [] ∨ ∃ n ∈ d.weights Try.prog 35, l.length ≤ n := by
  rcases hd with ⟨_, rfl⟩ | ⟨es, sp, rfl, h⟩
  · exact .inl rfl
  · refine .inr ⟨(es.length + sp.length) * Try.prog.bytesOf 5, by simp [DataW.weights, Try.underlying35], ?_⟩
    have : Try.prog.bytesOf 5 = 1 := by kernel_rfl
    rw [this]; omega
theorem datL_le {H : Type} {ts : List TypeId} {ds : List (DataW H)} (h : (DataW.weightsEach Try.prog ts ds).all (· ≤ reachBytes) = true) {j : Nat} {d : DataW H} {l : List UInt8} (ht : ts[j]? = some 35) (hd : ds[j]? = some d) (hl : DatL d l) : l.length ≤ 140737488355327 := by
  have hr := reachBytes_lt
  rcases datL_w hl with rfl | ⟨n, hn, hle⟩
  · simp
  · have := List.all_eq_true.1 h _ (DataW.weights_mem_each ht hd n hn)
    simp only [decide_eq_true_eq] at this
    omega
theorem open_dgram3 {H : Type} {enc : TypeId × Value → H} {w : World} {base b0 : Nat} {r : Reach} {sp : Nat → Bool} {held : Bool} {v : Value} {d : DataW H} {p : List MemPlace}
    (hv : Value.okWide Try.prog w r b0 37 v) (h : DataW.Trod enc Try.prog w base sp held 37 v d p) : ∃ fr frp to_ top A l c, v = .agg #[.int .u32 fr, .int .i64 frp, .int .u32 to_, .int .i64 top, .slice A l.length c] ∧ okA fr to_ ∧ Bytes w A l ∧ l.length ≤ maxLen ∧
      (∀ (ts : List TypeId) (ds : List (DataW H)) (j : Nat), (DataW.weightsEach Try.prog ts ds).all (· ≤ reachBytes) = true → ts[j]? = some 37 → ds[j]? = some d → l.length ≤ 140737488355327) := by
  obtain ⟨fr, frp, to_, top, A, l, c, rfl, hk, hb, hl⟩ := open_dgram hv h
  refine ⟨fr, frp, to_, top, A, l, c, rfl, hk, hb, hl, ?_⟩
  obtain ⟨fuel, hf⟩ := h
  obtain ⟨xs, n, _, hx, hcl, hxl, hg⟩ := DataW.trod_struct Try.underlying37 hf
  injection hx with hx1 hx2
  subst hx1
  have c39 : Try.prog.cellsOf 35 = 1 := by kernel_rfl
  have g4 := hg 4 _ rfl
  simp only [Value.cells] at g4
  rw [List.getElem?_eq_getElem (show 4 < xs.length by rw [hxl]; decide)] at g4
  obtain ⟨A', l', c', h8, h9, h10, h11, h12⟩ := trod_bytes3 g4
  simp [c39] at h8
  obtain ⟨_, h8, _⟩ := h8
  intro ts ds j hw ht hd
  have hr := reachBytes_lt
  rcases datL_w h12 with h0 | ⟨m, hm, hle⟩
  · rw [h0, List.length_nil] at h8; omega
  · have h1 := DataW.weights_mem_each (P := Try.prog) ht hd m (by
      simp only [DataW.weights, Try.underlying37]
      exact DataW.weights_mem_each (j := 4) (t := 35) (d := (xs[4]'(by rw [hxl]; decide)).1) rfl (by rw [List.getElem?_map, List.getElem?_eq_getElem (show 4 < xs.length by rw [hxl]; decide)]; rfl) m hm)
    have h2 := List.all_eq_true.1 hw _ h1
    simp only [decide_eq_true_eq] at h2
    omega
end Go.Proofs.Ytbhplleaokncpaa
