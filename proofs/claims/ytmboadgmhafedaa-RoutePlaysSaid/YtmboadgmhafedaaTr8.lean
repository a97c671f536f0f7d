/-
  Routes, the program: All.
-/
import Derived.Test.YtmboadgmhafedaaTr7
import Derived.Test.YtmboadgmhafedaaRp5
set_option linter.unusedVariables false
namespace Go.Proofs.Ytmboadgmhafedaa
open Go.RowKit

def clo (bl bd : Nat) : Value := .func (Fn.func 23) #[] #[.pointer (some ⟨bl, 0, none⟩), .pointer (some ⟨bd, 0, none⟩)]
structure Dn (W0 w : World) (bl bd : Nat) (v : Value) (acc : List R4) : Prop where
  box : Blk w bl 22 #[v]
  fn : Blk w bd 61 #[clo bl bd]
  own : OwnL w W0.heap.size v acc
  bel : Below W0.heap.size W0 w
  lb : W0.heap.size ≤ bl
theorem Dn.nx {W0 w w' : World} {bl bd : Nat} {v : Value} {acc : List R4} (h : Dn W0 w bl bd v acc) (k : Below w.heap.size w w') : Dn W0 w' bl bd v acc := ⟨h.box.nx k, h.fn.nx k, h.own.nx k, h.bel.trans (k.mono h.bel.size), h.lb⟩
theorem Dn.app {W0 w w' : World} {bl bd : Nat} {v v' : Value} {acc acc' : List R4} (h : Dn W0 w bl bd v acc) (g : w.grownBy w' v.ownBlock) (o : OwnL w' W0.heap.size v' acc') : Dn W0 (w'.setCell ⟨bl, 0, none⟩ v') bl bd v' acc' := by
  have h1 := h.box.grown g (fun e => own_blk_ne h.own h.box (by decide) e.symm)
  have h2 := h.fn.grown g (fun e => own_blk_ne h.own h.fn (by decide) e.symm)
  have hne : bd ≠ bl := h.fn.ne_ h.box (by decide)
  refine ⟨by simpa using h1.set_ 0 v', h2.far (p := ⟨bl, 0, none⟩) hne v', ?_, (h.bel.trans ((Below.refl _ _).grown g h.bel.size (fun k e => (own_lo h.own e).1))).setCell h.lb _, h.lb⟩
  exact KeepS.own (S := fun i => i = bl) (KeepS.set (S := fun i => i = bl) (p := ⟨bl, 0, none⟩) rfl v') o (fun g hg e => own_blk_ne o h1 (by decide) (by rw [hg, e]))
theorem Dn.cellA {W0 w w' : World} {bl bd : Nat} {v : Value} {acc : List R4} (h : Dn W0 w bl bd v acc) (g : w.grownBy w' v.ownBlock) : w'.cell? ⟨bl, 0, none⟩ = some v ∧ w'.frozen? ⟨bl, 0, none⟩ = false := by
  have h1 := h.box.grown g (fun e => own_blk_ne h.own h.box (by decide) e.symm)
  exact ⟨h1.cell 0, h1.frozen 0⟩
def DnP (W0 : World) (bl bd : Nat) (acc : List R4) (e : Ending) (w' : World) : Prop := ∃ v', e = .returned (.tuple #[]) ∧ Dn W0 w' bl bd v' acc
def kidsL (T : Tre) (f : Nat) (p : List Nat) : Nat → List R4
  | 0 => []
  | 1 => preL T f (p ++ [0])
  | _ => preL T f (p ++ [0]) ++ preL T f (p ++ [1])
set_option maxRecDepth 10000 in
set_option maxHeartbeats 1600000 in
theorem downNil (W0 w : World) {bl bd : Nat} {v : Value} {acc : List R4} (D : Dn W0 w bl bd v acc) :
    Calls Try.prog 23 #[.pointer none, .pointer (some ⟨bl, 0, none⟩), .pointer (some ⟨bd, 0, none⟩)] w (DnP W0 bl bd acc) := by
  have HD := Lib.hid D
  clear D
  go_enter Try.func23, Try.ntmps23
  go_wp2
  go_end0
  exact ⟨v, rfl, HD.out⟩
set_option maxRecDepth 10000 in
set_option maxHeartbeats 3200000 in
theorem downK (W0 : World) {B t : Nat} {T : Tre} {n : Int} (hT : IsT W0 B t T n) (bl bd : Nat) : ∀ (f : Nat) (p : List Nat), p.length + f = 33 → ∀ (w : World) (v : Value) (acc : List R4), Dn W0 w bl bd v acc → acc.length + (preL T f p).length ≤ 1000 →
    Calls Try.prog 23 #[ndV (T p), .pointer (some ⟨bl, 0, none⟩), .pointer (some ⟨bd, 0, none⟩)] w (DnP W0 bl bd (acc ++ preL T f p))
  | 0, p, hp, w, v, acc, D, hn => by
    have h0 : T p = none := by
      cases h : T p with
      | none => rfl
      | some d => have := (hT.bits p d h).1; omega
    rw [h0, show preL T 0 p = [] from rfl, List.append_nil]
    exact downNil W0 w D
  | f + 1, p, hp, w, v, acc, D, hn => by
    cases h0 : T p with
    | none =>
      rw [preL_none h0, List.append_nil]
      exact downNil W0 w D
    | some d =>
      have hp32 : p.length ≤ 32 := (hT.bits p d h0).1
      rw [preL_some h0] at hn ⊢
      have ih := fun c (w : World) (v : Value) (acc : List R4) => downK W0 hT bl bd f (p ++ [c]) (by simp; omega) w v acc
      have IH := Lib.hid ih
      obtain ⟨g, dv, rs⟩ := d
      simp only at hn ⊢
      simp only [List.length_append] at hn
      have HT := Lib.hid hT
      have H0 := Lib.hid h0
      have HN : Hid (acc.length + (rs.length + ((preL T f (p ++ [0])).length + (preL T f (p ++ [1])).length)) ≤ 1000) := hn
      obtain ⟨A, c, hv, hc⟩ := D.own.form
      subst hv
      obtain ⟨A2, c2, hv2, hc2⟩ := (hT.own p _ h0).form
      simp only at hv2 hc2
      subst hv2
      have hn1 : acc.length ≤ 1000 := by omega
      have hn2 : rs.length ≤ 1000 := by omega
      have D0 := Lib.hid D
      have Dd := Lib.hid (D.nx (rf w).drew)
      have Id := Lib.hid ((hT.nx D.bel).nx (rf w).drew)
      have c0 : w.cell? ⟨bl, 0, none⟩ = some (.slice A acc.length c) := D.box.cell 0
      have c1 : w.cell? ⟨g, 0, none⟩ = some (.slice A2 rs.length c2) := (hT.nx D.bel).cell0 h0
      unfold ndV
      clear D hT h0 hn ih
      go_enter Try.func23, Try.ntmps23
      go_wp2
      go_region_law (first
        | (refine step_app stR rfl (.tmp 8) (.tmp 12) rfl W0.heap.size (.slice A acc.length c) acc.length (flat acc) rfl Dd.out.own A2 rs.length c2 (flat rs) rfl (OwnL.reads (Id.out.own p _ H0.out)) (flat_one rs) (by omega) (by omega) Dd.out.bel.size ?_
           intro v3 w3 own3 gr3 at3 bel3
           obtain ⟨A3, c3, rfl⟩ := own_slice own3
           have y3 : w3.cell? ⟨bl, 0, none⟩ = some (.slice A acc.length c) := (Dd.out.cellA gr3).1
           have f3 : w3.frozen? ⟨bl, 0, none⟩ = false := (Dd.out.cellA gr3).2)
        | fail)
      all_goals
        have hl3 : (acc ++ rs).length = acc.length + rs.length := List.length_append
        have ow3 : OwnL w3 W0.heap.size (.slice A3 (acc.length + rs.length) c3) (acc ++ rs) := by
          unfold OwnL
          rw [hl3, flat_app]
          exact own3
        have D4 := Lib.hid (Dd.out.app gr3 ow3)
        clear y3 f3 c0 c1 own3 gr3 at3 bel3 ow3
        generalize w3.setCell ⟨bl, 0, none⟩ (.slice A3 (acc.length + rs.length) c3) = w4 at D4 ⊢
        have I4 := HT.out.nx D4.out.bel
        have k0 : w4.cell? ⟨g, 1, none⟩ = some (ndV (T (p ++ [0]))) := I4.kid (c := 0) H0.out (by decide)
        have k1 : w4.cell? ⟨g, 2, none⟩ = some (ndV (T (p ++ [1]))) := I4.kid (c := 1) H0.out (by decide)
        clear I4
        obtain ⟨K0, hK0⟩ : ∃ K, ndV (T (p ++ [0])) = K := ⟨_, rfl⟩
        obtain ⟨K1, hK1⟩ : ∃ K, ndV (T (p ++ [1])) = K := ⟨_, rfl⟩
        rw [hK0] at k0
        rw [hK1] at k1
        have HK0 := Lib.hid hK0
        have HK1 := Lib.hid hK1
        clear hK0 hK1
        go_wp2
        go_loopw [18] (fun kv wr => ∃ (k : Nat) (v : Value), kv = .int .i64 k ∧ k ≤ 2 ∧ Hid (Dn W0 wr bl bd v (acc ++ rs ++ kidsL T f p k))) (fun kv _ => 2 - (intOf kv).toNat)
        case atStart => exact ⟨0, _, rfl, by omega, by show Dn _ _ _ _ _ _; rw [show kidsL T f p 0 = [] from rfl, List.append_nil]; exact D4.out⟩
        case round =>
          obtain ⟨k, v, rfl, hk, DK⟩ := hrel
          have cf : wr.cell? ⟨bd, 0, none⟩ = some (.func (Fn.func 23) #[] #[.pointer (some ⟨bl, 0, none⟩), .pointer (some ⟨bd, 0, none⟩)]) := DK.out.fn.cell 0
          match k, hk with
          | 0, _ =>
            have C := IH.out 0 wr v _ DK.out (by have := HN.out; simp only [kidsL, List.length_append, List.length_nil]; omega)
            have hix : ∀ w : World, (Instr.index 28 (.agg #[K0, K1]) (.int .i64 0)).run Try.prog w = .ok K0 w := fun w => run_index_arr Try.underlying28 (fun w => by kernel_rfl) (fun w => by kernel_rfl) #[K0, K1] .i64 0 (by decide) K0 rfl w
            rw [HK0.out] at C
            have HC := Lib.hid C
            clear C
            go_wp2_with fail
            refine HC.out.mono ?_
            rintro e w5 ⟨v5, rfl, D5⟩
            have HD5 := Lib.hid D5
            clear D5
            go_wp2
            go_roundw
            case rel => exact ⟨1, v5, by go_num, by omega, by show Dn _ _ _ _ _ _; have h := HD5.out; simpa [kidsL] using h⟩
            case measure => simp [intOf]
          | 1, _ =>
            have C := IH.out 1 wr v _ DK.out (by have := HN.out; simp only [kidsL, List.length_append]; omega)
            have hix : ∀ w : World, (Instr.index 28 (.agg #[K0, K1]) (.int .i64 1)).run Try.prog w = .ok K1 w := fun w => run_index_arr Try.underlying28 (fun w => by kernel_rfl) (fun w => by kernel_rfl) #[K0, K1] .i64 1 (by decide) K1 rfl w
            rw [HK1.out] at C
            have HC := Lib.hid C
            clear C
            go_wp2_with fail
            refine HC.out.mono ?_
            rintro e w5 ⟨v5, rfl, D5⟩
            have HD5 := Lib.hid D5
            clear D5
            go_wp2
            go_roundw
            case rel => exact ⟨2, v5, by go_num, by omega, by show Dn _ _ _ _ _ _; have h := HD5.out; simpa [kidsL] using h⟩
            case measure => simp [intOf]
          | 2, _ =>
            have HE : Hid (DnP W0 bl bd (acc ++ (rs ++ (preL T f (p ++ [0]) ++ preL T f (p ++ [1])))) (.returned (.tuple #[])) wr) := ⟨v, rfl, by have h := DK.out; simpa [kidsL] using h⟩
            go_wp2
            go_end0
            exact HE.out
end Go.Proofs.Ytmboadgmhafedaa
