/-
  IP: what the library's listed variables hold, and the library's own functions under that.
-/
import Derived.Test.YthjpdaflgphbbaaDoorByt
import Derived.Test.YthjpdaflgphbbaaDoorShelf
import Derived.Lib.AtoiErrMem
set_option linter.unusedVariables false
namespace Go.Proofs.YthjpdaflgphbbaaDoor
open Go.RowKit

structure Env (w : World) : Prop where
  tab : Lib.TabIs Tryd.prog w "internal/strconv.uint64pow10" .u64 Lib.pow10Tab
  syn : ∃ tp p, w.var? Tryd.prog "strconv.ErrSyntax" = some #[.iface tp p]
  rng : ∃ tp p, w.var? Tryd.prog "strconv.ErrRange" = some #[.iface tp p]
  mx : ∃ m : Int, w.cell? ⟨3, 0, none⟩ = some (.int .i64 m)
theorem var_nx {w w' : World} (k : Below w.heap.size w w') {name : String} {cs : Array Value} (h : w.var? Tryd.prog name = some cs) : w'.var? Tryd.prog name = some cs := by
  unfold World.var? at *
  cases hg : Tryd.prog.globalNamed name with
  | none => simp [hg] at h
  | some g =>
    simp only [hg, Option.bind_some] at h ⊢
    have hlt : g < w.heap.size := by
      rcases Nat.lt_or_ge g w.heap.size with h' | h'
      · exact h'
      · rw [Array.getElem?_eq_none h'] at h; simp at h
    rw [k.block g hlt]
    exact h
theorem Env.nx {w w' : World} (h : Env w) (k : Below w.heap.size w w') : Env w' := by
  obtain ⟨h1, ⟨t2, p2, h2⟩, ⟨t3, p3, h3⟩, ⟨m, hm⟩⟩ := h
  refine ⟨var_nx k h1, ⟨t2, p2, var_nx k h2⟩, ⟨t3, p3, var_nx k h3⟩, m, ?_⟩
  have hlt : 3 < w.heap.size := by
    rcases Nat.lt_or_ge 3 w.heap.size with h' | h'
    · exact h'
    · simp [World.cell?, Array.getElem?_eq_none h'] at hm
  exact (k.cell (p := ⟨3, 0, none⟩) hlt).trans hm
theorem below_grow (w : World) (k : Nat) (os : Array Obj) : Below w.heap.size w (Sort.grow (w.drewN k) os) := by
  refine ⟨rfl, rfl, rfl, by simp [Sort.grow, World.drewN], fun i hi => ?_⟩
  show (w.heap ++ os)[i]? = w.heap[i]?
  rw [Array.getElem?_append_left hi]

def itx (n : Nat) : ByteArray := ⟨(Lib.decDigits n).toArray⟩
theorem itoaC (n : Int) (w : World) (h : Env w) (h0 : 0 ≤ n) (h1 : n ≤ 9223372036854775807) :
    Calls Tryd.prog 38 #[.int .i64 n] w fun e w' => e = .returned (.string (itx n.toNat)) ∧ Below w.heap.size w w' := by
  refine (Tryd.strconv_Itoa n (by omega) h1 w h.tab).mono ?_
  rintro e w' ⟨rfl, k, os, rfl⟩
  refine ⟨?_, below_grow w k os⟩
  unfold Lib.itoa itx
  rw [if_neg (by omega)]
-- what Atoi hands out: the number, or an error that is not nil
def AtoP (x : ByteArray) (w : World) (e : Ending) (w' : World) : Prop :=
  Below w.heap.size w w' ∧ ((∃ v, Lib.atoiAll x.data.toList = .ok v ∧ e = .returned (.tuple #[.int .i64 v, .nilIface])) ∨ ((∀ v, Lib.atoiAll x.data.toList ≠ .ok v) ∧ ∃ (v : Int) (t : TypeId) (p : Value), e = .returned (.tuple #[.int .i64 v, .iface t p])))
theorem atoiC (x : ByteArray) (w : World) (h : Env w) (hx : x.size ≤ 281474976710656) : Calls Tryd.prog 41 #[.string x] w (AtoP x w) := by
  rcases hc : Lib.atoiAll x.data.toList with v | _ | _
  · refine (Tryd.strconv_Atoi_ok x (by omega) v hc w).mono ?_
    rintro e w' ⟨rfl, hw⟩
    refine ⟨?_, .inl ⟨v, hc, rfl⟩⟩
    rcases hw with rfl | ⟨t, rfl⟩
    · exact Below.refl _ _
    · exact Lib.bytesWorld_below _ _ _
  · obtain ⟨tp, p, hv⟩ := h.syn
    refine (Any.strconv_Atoi_syntax_var Tryd.laysC172 x hx hc tp p w hv).mono ?_
    rintro e w' ⟨N, rfl, _, _, hb⟩
    exact ⟨hb, .inr ⟨fun v hv => by rw [hc] at hv; (cases hv), _, _, _, rfl⟩⟩
  · obtain ⟨tp, p, hv⟩ := h.rng
    refine (Tryd.strconv_Atoi_range_var x hx hc tp p w hv).mono ?_
    rintro e w' ⟨N, rfl, _, _, hb⟩
    exact ⟨hb, .inr ⟨fun v hv => by rw [hc] at hv; (cases hv), _, _, _, rfl⟩⟩
end Go.Proofs.YthjpdaflgphbbaaDoor
