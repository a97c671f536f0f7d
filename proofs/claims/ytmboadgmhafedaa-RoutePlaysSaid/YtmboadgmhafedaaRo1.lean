/-
  Routes: the law's helper rows; a list of routes as an argument.
-/
import Derived.Test.YtmboadgmhafedaaTr9
import Derived.Test.YtmboadgmhafedaaRtG
import Derived.Laws.StructEq
set_option linter.unusedVariables false
namespace Go.Proofs.Ytmboadgmhafedaa
open Go.ChangeShapes Go.WideShapes Go.ChangeAt Go.RowKit

theorem neq_route (x y z u : Int) (w : World) : (binOp .neq 36 (.agg #[.int .u32 x, .int .i64 y, .int .u32 z, .int .i64 u]) (.agg #[.int .u32 x, .int .i64 y, .int .u32 z, .int .i64 u])).run Try.prog w = .ok (.bool false) w := by
  rw [run_neq_struct, run_equalIn_agg w 9999 36 _ _ (by unfold Program.fieldsOf; rw [Try.underlying36]) (by kernel_rfl)]
  unfold Program.fieldsOf
  rw [Try.underlying36]
  have h1 := fun (a b : Int) => run_equalIn_int (P := Try.prog) w 9998 3 .i64 .i64 a b Try.underlying3
  have h2 := fun (a b : Int) => run_equalIn_int (P := Try.prog) w 9998 24 .u32 .u32 a b Try.underlying24
  simp [Op.eqFields, part, Try.isAgg3, Try.isAgg24, h1, h2]
theorem eql_route (x y z u : Int) (w : World) : (binOp .eql 36 (.agg #[.int .u32 x, .int .i64 y, .int .u32 z, .int .i64 u]) (.agg #[.int .u32 x, .int .i64 y, .int .u32 z, .int .i64 u])).run Try.prog w = .ok (.bool true) w := by
  rw [run_eql_struct, run_equalIn_agg w 9999 36 _ _ (by unfold Program.fieldsOf; rw [Try.underlying36]) (by kernel_rfl)]
  unfold Program.fieldsOf
  rw [Try.underlying36]
  have h1 := fun (a b : Int) => run_equalIn_int (P := Try.prog) w 9998 3 .i64 .i64 a b Try.underlying3
  have h2 := fun (a b : Int) => run_equalIn_int (P := Try.prog) w 9998 24 .u32 .u32 a b Try.underlying24
  simp [Op.eqFields, part, Try.isAgg3, Try.isAgg24, h1, h2]
set_option maxHeartbeats 1600000 in
theorem rowsK (w : World) {b1 b2 : Nat} {V1 V2 : Value} {L : List R4} (o1 : OwnL w b1 V1 L) (o2 : OwnL w b2 V2 L) (hn : L.length ≤ 1000) :
    Calls Try.prog 13 #[V1, V2] w fun e w' => e = .returned (.bool true) ∧ Below w.heap.size w w' := by
  obtain ⟨A1, c1, rfl, hc1⟩ := o1.form
  obtain ⟨A2, c2, rfl, hc2⟩ := o2.form
  obtain ⟨q, hq⟩ : ∃ q, L.length = q := ⟨_, rfl⟩
  rw [hq] at o1 o2 hn hc1 hc2 ⊢
  have O1 := Lib.hid o1
  have O2 := Lib.hid o2
  have HQ := Lib.hid hq
  clear o1 o2 hq
  have hneq := neq_route
  go_enter Try.func13, Try.ntmps13
  go_wp2
  go_loopw [5] (fun iv wr => ∃ k : Nat, iv = .int .i64 k ∧ k ≤ q ∧ Hid (Below w.heap.size w wr)) (fun iv _ => q - (intOf iv).toNat)
  case atStart => exact ⟨0, rfl, Nat.zero_le _, rf w⟩
  case round =>
    obtain ⟨k, rfl, hk, Bk⟩ := hrel
    by_cases hkq : k < q
    · have k0 : (0 : Int) ≤ k := by omega
      have k1 : (k : Int) < q := by omega
      obtain ⟨m, hm⟩ : ∃ m, L[k]? = some m := ⟨_, List.getElem?_eq_getElem (by rw [HQ.out]; exact hkq)⟩
      obtain ⟨g1, hA1, _, x0, x1, x2, x3⟩ := (O1.out.nx Bk.out).cells hm
      obtain ⟨g2, hA2, _, y0, y1, y2, y3⟩ := (O2.out.nx Bk.out).cells hm
      subst hA1
      subst hA2
      obtain ⟨a, b, d, u⟩ := m
      clear hm
      have BD := Lib.hid (nx Bk.out ((rf wr).drew))
      go_wp2
      go_region
      go_wp2
      go_roundw
      case rel => exact ⟨k + 1, by go_num, by omega, BD.out⟩
      case measure => simp [intOf]; omega
    · obtain rfl : k = q := by omega
      go_wp2
      go_ret
      exact ⟨rfl, Bk.out⟩
theorem wf_u32 {a : Int} (h : (Lit.int .u32 a).wf = true) : 0 ≤ a ∧ a < 4294967296 := by
  constructor <;> (simp [Lit.wf, IntKind.min, IntKind.max, IntKind.signed, IntKind.bits] at h; omega)
theorem trod_r4 {H : Type} {enc : TypeId × Value → H} {w : World} {base : Nat} {sp : Nat → Bool} {held : Bool} {fuel : Nat} {cs : List Value} {x : DataW H × List MemPlace}
    (hsz : cs.length = 4) (hf : DataW.trod enc Try.prog w base sp held fuel 36 cs = some x) : ∃ s : R4, cs = s.cs ∧ InU s := by
  have hk := leaves_of (F := 4) (N := 4) (ks := [.int .u32, .int .i64, .int .u32, .int .i64]) hf (by kernel_rfl)
  match cs, hsz with
  | [x0, x1, x2, x3], _ =>
    obtain ⟨v0, e0, a0, h0, w0⟩ := hk 0 _ rfl
    obtain rfl : x0 = v0 := by injection e0
    subst h0
    obtain ⟨v1, e1, a1, h1, _⟩ := hk 1 _ rfl
    obtain rfl : x1 = v1 := by injection e1
    subst h1
    obtain ⟨v2, e2, a2, h2, _⟩ := hk 2 _ rfl
    obtain rfl : x2 = v2 := by injection e2
    subst h2
    obtain ⟨v3, e3, a3, h3, _⟩ := hk 3 _ rfl
    obtain rfl : x3 = v3 := by injection e3
    subst h3
    exact ⟨⟨a0, a1, a2, a3⟩, rfl, wf_u32 w0⟩
-- a row of routes that is not one's own
structure IsL (w : World) (A : Option Addr) (n : Nat) (L : List R4) : Prop where
  rows : RowsAt w w.heap.size 4 A n (L.map R4.cs)
  len : L.length = n
  inu : ∀ r ∈ L, InU r
theorem IsL.nx {w w' : World} {A : Option Addr} {n : Nat} {L : List R4} (h : IsL w A n L) (k : Below w.heap.size w w') : IsL w' A n L := by
  refine ⟨?_, h.len, h.inu⟩
  have := h.rows.below k
  refine ⟨this.1, this.2.1, fun h0 => ?_⟩
  obtain ⟨ad, e, hb, hc⟩ := this.2.2 h0
  exact ⟨ad, e, Nat.lt_of_lt_of_le hb k.size, hc⟩
theorem IsL.keep {w w' : World} {A : Option Addr} {n : Nat} {L : List R4} (B : Nat) {w0 : World} (h : IsL w0 A n L) (hb : Below w0.heap.size w0 w) (k : Below w0.heap.size w w') : IsL w' A n L := h.nx (hb.trans k)
theorem IsL.at_ {w : World} {A : Option Addr} {n : Nat} {L : List R4} (h : IsL w A n L) {i : Nat} (hi : i < n) :
    ∃ ad r, A = some ad ∧ ad.block < w.heap.size ∧ L[i]? = some r ∧ InU r ∧ ∀ j u, r.cs[j]? = some u → w.cell? ((ad.add (i * 4)).add j) = some u := by
  obtain ⟨ad, rr, e, hb, hr, _, hc⟩ := h.rows.row hi
  rw [List.getElem?_map] at hr
  cases hL : L[i]? with
  | none => rw [hL] at hr; cases hr
  | some r =>
    rw [hL] at hr
    injection hr with hr
    subst hr
    exact ⟨ad, r, e, hb, rfl, h.inu r (List.mem_of_getElem? hL), hc⟩
theorem list_of {l : List (List Value)} (h : ∀ r ∈ l, ∃ s : R4, r = s.cs ∧ InU s) : ∃ L : List R4, l = L.map R4.cs ∧ ∀ r ∈ L, InU r := by
  induction l with
  | nil => exact ⟨[], rfl, by simp⟩
  | cons r l ih =>
    obtain ⟨s, e, hs⟩ := h r List.mem_cons_self
    obtain ⟨L, e2, hL⟩ := ih (fun q hq => h q (List.mem_cons_of_mem _ hq))
    exact ⟨s :: L, by rw [e, e2]; rfl, fun q hq => by rcases List.mem_cons.1 hq with rfl | hq; exact hs; exact hL q hq⟩
theorem open_routes {H : Type} {enc : TypeId × Value → H} {w : World} {base b0 : Nat} {r : Reach} {sp : Nat → Bool} {held : Bool} {v : Value} {d : DataW H} {p : List MemPlace}
    (hv : Value.okWide Try.prog w r b0 22 v) (h : DataW.Trod enc Try.prog w base sp held 22 v d p) :
    ∃ (A : Option Addr) (n c : Nat) (L : List R4), v = .slice A n c ∧ n ≤ c ∧ c ≤ maxLen ∧ IsL w A n L := by
  obtain ⟨A, n, c, l, h1, h2, h3, h4, h5⟩ := open_rows Try.underlying22 (by kernel_rfl) (by decide) hv h (fun cs => ∃ s : R4, cs = s.cs ∧ InU s) (fun _ cs _ hl hx => trod_r4 hl hx)
  obtain ⟨L, rfl, hL⟩ := list_of h5
  exact ⟨A, n, c, L, h1, h2, h3, h4, by have := h4.1; rwa [List.length_map] at this, hL⟩
-- an empty table
def T0 (w : World) : Tre := fun p => if p = [] then some ⟨w.heap.size, .slice none 0 0, []⟩ else none
theorem tab_new (w : World) : Tab (w.alloc (.cells #[.slice none 0 0, .pointer none, .pointer none, .int .i64 0] 32)) w.heap.size w.heap.size [] (T0 w) := by
  have P : ∀ q e, T0 w q = some e → q = [] ∧ e = ⟨w.heap.size, .slice none 0 0, []⟩ := fun q e he => by
    unfold T0 at he
    split at he
    · injection he with he; exact ⟨by assumption, he.symm⟩
    · cases he
  have kn : ∀ c, kidV (T0 w) [] c = .pointer none := fun c => kidV_none (by unfold T0; rw [if_neg (by simp)])
  refine ⟨IsT.of ⟨_, rfl, rfl⟩ ?_ ?_ ?_ ?_ ?_ ?_ ?_, TabOK.nil, fun p => ?_, by simp⟩
  · intro q e he
    obtain ⟨rfl, rfl⟩ := P q e he
    unfold csN tyN
    rw [kn, kn, if_pos rfl, if_pos rfl]
    exact Blk.new _ _ _
  · intro q e he
    obtain ⟨rfl, rfl⟩ := P q e he
    exact World.ownsRow_nil _ _ _ _
  · intro p q d e hd he hpq
    exact absurd ((P p d hd).1.trans (P q e he).1.symm) hpq
  · intro p q d e hd he hpq
    exact absurd ((P p d hd).1.trans (P q e he).1.symm) hpq
  · intro p c hp
    unfold T0 at hp
    rw [if_neg (by simp)] at hp
    cases hp
  · intro p d hd
    obtain ⟨rfl, rfl⟩ := P p d hd
    simp
  · intro p d hd
    obtain ⟨rfl, rfl⟩ := P p d hd
    exact Nat.le_refl _
  · unfold rsOf T0 atP
    split
    · rename_i h
      split at h
      · injection h with h; rw [← h]; rfl
      · cases h
    · rfl
end Go.Proofs.Ytmboadgmhafedaa
