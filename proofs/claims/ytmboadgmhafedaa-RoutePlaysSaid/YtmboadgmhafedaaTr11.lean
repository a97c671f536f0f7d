/-
  Routes, the program: nodes that nothing stands at or beneath are taken away. Printed by gen_prn.py.
-/
import Derived.Test.YtmboadgmhafedaaTr8
set_option linter.unusedVariables false
namespace Go.Proofs.Ytmboadgmhafedaa
open Go.RowKit

structure Pr (w w' : World) (B t : Nat) (T T' : Tre) (n : Int) (p : List Nat) : Prop where
  tr : IsT w' B t T' n
  rs : ∀ q, rsOf T' q = rsOf T q
  gs : Gs w w' T T'
  at_ : T' p = T p
def PrP (w : World) (B t : Nat) (T : Tre) (n : Int) (p : List Nat) (e : Ending) (w' : World) : Prop :=
  ∃ (T' : Tre) (b : Bool), e = .returned (.bool b) ∧ Pr w w' B t T T' n p ∧ (∀ q, ¬ p <+: q → T' q = T q) ∧ (b = true → rsOf T p = [] ∧ ∀ c, T' (p ++ [c]) = none)
theorem Pr.nx {w w' w2 : World} {B t : Nat} {T T' : Tre} {n : Int} {p : List Nat} (h : Pr w w' B t T T' n p) (k : Below w'.heap.size w' w2) : Pr w w2 B t T T' n p :=
  ⟨h.tr.nx k, h.rs, h.gs.trans (Gs.of_below k), h.at_⟩
theorem no_pre {p : List Nat} {c e : Nat} (h : c ≠ e) : ¬ p ++ [c] <+: p ++ [e] := fun ⟨s, hs⟩ => by
  rw [List.append_assoc] at hs
  have := List.append_cancel_left hs
  simp only [List.cons_append, List.nil_append, List.cons.injEq] at this
  exact h this.1
theorem no_pre' {p : List Nat} {c : Nat} : ¬ p ++ [c] <+: p := fun h => by
  have := h.length_le
  simp at this
  omega
-- the round at kid k: what stood beneath p but for the kids ahead of k is as it was
structure Rd (w wr : World) (B t : Nat) (T T' : Tre) (n : Int) (p : List Nat) (k : Nat) (em : Bool) : Prop where
  pr : Pr w wr B t T T' n p
  out : ∀ q, (∀ c, c < k → ¬ p ++ [c] <+: q) → T' q = T q
  em : em = true → rsOf T p = [] ∧ ∀ c, c < k → T' (p ++ [c]) = none
theorem Rd.kid {w wr : World} {B t : Nat} {T T' : Tre} {n : Int} {p : List Nat} {k : Nat} {em : Bool} (h : Rd w wr B t T T' n p k em) : T' (p ++ [k]) = T (p ++ [k]) := h.out _ (fun c hc => no_pre (by omega))
theorem Rd.none_ {w wr : World} {B t : Nat} {T T' : Tre} {n : Int} {p : List Nat} {k : Nat} {em : Bool} (h : Rd w wr B t T T' n p k em) (hk : T (p ++ [k]) = none) {w2 : World} (hb : Below wr.heap.size wr w2) : Rd w w2 B t T T' n p (k + 1) em :=
  ⟨h.pr.nx hb, fun q hq => h.out q (fun c hc => hq c (by omega)), fun he => ⟨(h.em he).1, fun c hc => by
    by_cases hck : c = k
    · subst hck; rw [h.kid]; exact hk
    · exact (h.em he).2 c (by omega)⟩⟩
theorem Rd.call {w wr w1 : World} {B t : Nat} {T T' T2 : Tre} {n : Int} {p : List Nat} {k : Nat} {em : Bool} (h : Rd w wr B t T T' n p k em) (c1 : Pr wr w1 B t T' T2 n (p ++ [k])) (c2 : ∀ q, ¬ p ++ [k] <+: q → T2 q = T' q) : Rd w w1 B t T T2 n p (k + 1) false := by
  refine ⟨⟨c1.tr, fun q => (c1.rs q).trans (h.pr.rs q), h.pr.gs.trans c1.gs, (c2 p no_pre').trans h.pr.at_⟩, fun q hq => ?_, fun he => by cases he⟩
  rw [c2 q (hq k (by omega))]
  exact h.out q (fun c hc => hq c (by omega))
theorem Rd.cut {w wr w1 : World} {B t : Nat} {T T' T2 : Tre} {n : Int} {p : List Nat} {d : Nd} {k : Nat} {em : Bool} (h : Rd w wr B t T T' n p k em) (hd : T p = some d) (hk : k < 2) (c1 : Pr wr w1 B t T' T2 n (p ++ [k])) (c2 : ∀ q, ¬ p ++ [k] <+: q → T2 q = T' q) (c3 : rsOf T' (p ++ [k]) = [] ∧ ∀ c, T2 (p ++ [k] ++ [c]) = none) :
    Rd w (w1.setCell ⟨d.g, 1 + k, none⟩ (.pointer none)) B t T (upT T2 (p ++ [k]) none) n p (k + 1) em := by
  have hd2 : T2 p = some d := by rw [c2 p no_pre', h.pr.at_]; exact hd
  have C := c1.tr.cut hd2 hk c3.2
  refine ⟨⟨C.1, fun q => ?_, (h.pr.gs.trans c1.gs).trans C.2, ?_⟩, fun q hq => ?_, fun he => ⟨(h.em he).1, fun c hc => ?_⟩⟩
  · rw [rsOf_cut (by rw [c1.rs]; exact c3.1), c1.rs, h.pr.rs]
  · rw [upT_ne (Ne.symm (app_ne _ _)), hd2, hd]
  · have hne : q ≠ p ++ [k] := fun e => hq k (by omega) (e ▸ List.prefix_refl _)
    rw [upT_ne hne, c2 q (hq k (by omega))]
    exact h.out q (fun c hc => hq c (by omega))
  · by_cases hck : c = k
    · subst hck; exact upT_at
    · rw [upT_ne (fun e => hck (app_inj e).2), c2 _ (no_pre (Ne.symm hck))]
      exact (h.em he).2 c (by omega)
theorem Rd.less {w wr : World} {B t : Nat} {T T' : Tre} {n : Int} {p : List Nat} {k : Nat} {em : Bool} (h : Rd w wr B t T T' n p k em) : Rd w wr B t T T' n p k false := ⟨h.pr, h.out, fun he => by cases he⟩
set_option maxRecDepth 10000 in
set_option maxHeartbeats 3200000 in
theorem pruneK {B t : Nat} {n : Int} : ∀ (f : Nat) (p : List Nat), p.length + f = 33 → ∀ (w : World) (T : Tre) (d : Nd), IsT w B t T n → T p = some d →
    Calls Try.prog 31 #[.pointer (some ⟨d.g, 0, none⟩)] w (PrP w B t T n p)
  | 0, p, hp, w, T, d, hT, hd => by have := (hT.bits p d hd).1; omega
  | f + 1, p, hp, w, T, d, hT, hd => by
    have IH := Lib.hid (fun c (w : World) (T : Tre) (d : Nd) => pruneK (B := B) (t := t) (n := n) f (p ++ [c]) (by simp; omega) w T d)
    obtain ⟨g, v, rs⟩ := d
    obtain ⟨A, c, hv, hc⟩ := (hT.own p _ hd).form
    simp only at hv hc ⊢
    subst hv
    have y0 : w.cell? ⟨g, 0, none⟩ = some (.slice A rs.length c) := hT.cell0 hd
    have k0 : w.cell? ⟨g, 1, none⟩ = some (ndV (T (p ++ [0]))) := hT.kid (c := 0) hd (by decide)
    have k1 : w.cell? ⟨g, 2, none⟩ = some (ndV (T (p ++ [1]))) := hT.kid (c := 1) hd (by decide)
    have HD := Lib.hid hd
    have HT := Lib.hid hT
    have HRS : Hid (rsOf T p = rs) := rsOf_some hd
    obtain ⟨em0, hem⟩ : ∃ b, ((rs.length : Int) == 0) = b := ⟨_, rfl⟩
    have R0 : Hid (Rd w w B t T T n p 0 em0) := ⟨⟨hT, fun _ => rfl, Gs.of_below (rf w), rfl⟩, fun _ _ => rfl, fun he => ⟨by rw [HRS.out]; rw [he] at hem; simpa using hem, fun c hc => absurd hc (Nat.not_lt_zero _)⟩⟩
    obtain ⟨K0, hK0⟩ : ∃ K, ndV (T (p ++ [0])) = K := ⟨_, rfl⟩
    obtain ⟨K1, hK1⟩ : ∃ K, ndV (T (p ++ [1])) = K := ⟨_, rfl⟩
    rw [hK0] at k0
    rw [hK1] at k1
    have HK0 := Lib.hid hK0
    have HK1 := Lib.hid hK1
    clear hK0 hK1 hT hd
    go_enter Try.func31, Try.ntmps31
    go_wp2
    go_loopw [3, 16] (fun ev kv wr => ∃ (k : Nat) (T' : Tre) (em : Bool), ev = .bool em ∧ kv = .int .i64 k ∧ k ≤ 2 ∧ Hid (Rd w wr B t T T' n p k em)) (fun _ kv _ => 2 - (intOf kv).toNat)
    case atStart => exact ⟨0, T, em0, rfl, rfl, by omega, R0.out⟩
    case round =>
      obtain ⟨k, T', em, rfl, rfl, hk, RD⟩ := hrel
      match k, hk with
      | 0, _ =>
        have hix : ∀ w : World, (Instr.index 28 (.agg #[K0, K1]) (.int .i64 0)).run Try.prog w = .ok K0 w := fun w => run_index_arr Try.underlying28 (fun w => by kernel_rfl) (fun w => by kernel_rfl) #[K0, K1] .i64 0 (by decide) K0 rfl w
        have hd' : T' p = some ⟨g, .slice A rs.length c, rs⟩ := RD.out.pr.at_.trans HD.out
        cases hk1 : T (p ++ [0]) with
        | none =>
          have hkv : K0 = .pointer none := by rw [← HK0.out, hk1]; rfl
          subst hkv
          have yk : wr.cell? ⟨g, 1, none⟩ = some (.pointer none) := by
            have h1 := RD.out.pr.tr.kid (c := 0) hd' (by decide)
            rw [kidV_none (by rw [RD.out.kid]; exact hk1)] at h1
            exact h1
          have RN := Lib.hid (RD.out.none_ hk1 (rf wr))
          clear hk1 hd'
          cases em with
          | true =>
            go_wp2
            go_roundw
            case rel => exact ⟨1, T', true, rfl, by go_num, by omega, RN.out⟩
            case measure => simp [intOf]
          | false =>
            go_wp2
            go_roundw
            case rel => exact ⟨1, T', false, rfl, by go_num, by omega, RN.out⟩
            case measure => simp [intOf]
        | some dk =>
          have hkv : K0 = .pointer (some ⟨dk.g, 0, none⟩) := by rw [← HK0.out, hk1]; rfl
          subst hkv
          have hk2 : T' (p ++ [0]) = some dk := RD.out.kid.trans hk1
          have C := Lib.hid (IH.out 0 wr T' dk RD.out.pr.tr hk2)
          have HK2 := Lib.hid hk2
          have HDP := Lib.hid hd'
          clear hk1 hk2 hd'
          go_wp2_with fail
          refine C.out.mono ?_
          rintro e w1 ⟨T2, b, rfl, c1, c2, c3⟩
          have hd2 : T2 p = some ⟨g, .slice A rs.length c, rs⟩ := by rw [c2 p no_pre']; exact HDP.out
          have hk3 : T2 (p ++ [0]) = some dk := c1.at_.trans HK2.out
          have yk : w1.cell? ⟨g, 1, none⟩ = some (.pointer (some ⟨dk.g, 0, none⟩)) := by
            have h1 := c1.tr.kid (c := 0) hd2 (by decide)
            rw [kidV_some hk3] at h1
            exact h1
          have fk : w1.frozen? ⟨g, 1, none⟩ = false := c1.tr.fro hd2 _
          have C1 := Lib.hid c1
          have C2 := Lib.hid c2
          have C3 := Lib.hid c3
          clear c1 c2 c3 hd2 hk3
          cases b with
          | true =>
            have RC : Hid (Rd w (w1.setCell ⟨g, 1, none⟩ (.pointer none)) B t T (upT T2 (p ++ [0]) none) n p 1 em) := RD.out.cut HD.out (by decide) C1.out C2.out (C3.out rfl)
            cases em with
            | true =>
              go_wp2
              go_roundw
              case rel => exact ⟨1, _, true, rfl, by go_num, by omega, RC.out⟩
              case measure => simp [intOf]
            | false =>
              go_wp2
              go_roundw
              case rel => exact ⟨1, _, false, rfl, by go_num, by omega, RC.out⟩
              case measure => simp [intOf]
          | false =>
            have RC : Hid (Rd w w1 B t T T2 n p 1 false) := RD.out.call C1.out C2.out
            cases em with
            | true =>
              go_wp2
              go_roundw
              case rel => exact ⟨1, _, false, rfl, by go_num, by omega, RC.out⟩
              case measure => simp [intOf]
            | false =>
              go_wp2
              go_roundw
              case rel => exact ⟨1, _, false, rfl, by go_num, by omega, RC.out⟩
              case measure => simp [intOf]
      | 1, _ =>
        have hix : ∀ w : World, (Instr.index 28 (.agg #[K0, K1]) (.int .i64 1)).run Try.prog w = .ok K1 w := fun w => run_index_arr Try.underlying28 (fun w => by kernel_rfl) (fun w => by kernel_rfl) #[K0, K1] .i64 1 (by decide) K1 rfl w
        have hd' : T' p = some ⟨g, .slice A rs.length c, rs⟩ := RD.out.pr.at_.trans HD.out
        cases hk1 : T (p ++ [1]) with
        | none =>
          have hkv : K1 = .pointer none := by rw [← HK1.out, hk1]; rfl
          subst hkv
          have yk : wr.cell? ⟨g, 2, none⟩ = some (.pointer none) := by
            have h1 := RD.out.pr.tr.kid (c := 1) hd' (by decide)
            rw [kidV_none (by rw [RD.out.kid]; exact hk1)] at h1
            exact h1
          have RN := Lib.hid (RD.out.none_ hk1 (rf wr))
          clear hk1 hd'
          cases em with
          | true =>
            go_wp2
            go_roundw
            case rel => exact ⟨2, T', true, rfl, by go_num, by omega, RN.out⟩
            case measure => simp [intOf]
          | false =>
            go_wp2
            go_roundw
            case rel => exact ⟨2, T', false, rfl, by go_num, by omega, RN.out⟩
            case measure => simp [intOf]
        | some dk =>
          have hkv : K1 = .pointer (some ⟨dk.g, 0, none⟩) := by rw [← HK1.out, hk1]; rfl
          subst hkv
          have hk2 : T' (p ++ [1]) = some dk := RD.out.kid.trans hk1
          have C := Lib.hid (IH.out 1 wr T' dk RD.out.pr.tr hk2)
          have HK2 := Lib.hid hk2
          have HDP := Lib.hid hd'
          clear hk1 hk2 hd'
          go_wp2_with fail
          refine C.out.mono ?_
          rintro e w1 ⟨T2, b, rfl, c1, c2, c3⟩
          have hd2 : T2 p = some ⟨g, .slice A rs.length c, rs⟩ := by rw [c2 p no_pre']; exact HDP.out
          have hk3 : T2 (p ++ [1]) = some dk := c1.at_.trans HK2.out
          have yk : w1.cell? ⟨g, 2, none⟩ = some (.pointer (some ⟨dk.g, 0, none⟩)) := by
            have h1 := c1.tr.kid (c := 1) hd2 (by decide)
            rw [kidV_some hk3] at h1
            exact h1
          have fk : w1.frozen? ⟨g, 2, none⟩ = false := c1.tr.fro hd2 _
          have C1 := Lib.hid c1
          have C2 := Lib.hid c2
          have C3 := Lib.hid c3
          clear c1 c2 c3 hd2 hk3
          cases b with
          | true =>
            have RC : Hid (Rd w (w1.setCell ⟨g, 2, none⟩ (.pointer none)) B t T (upT T2 (p ++ [1]) none) n p 2 em) := RD.out.cut HD.out (by decide) C1.out C2.out (C3.out rfl)
            cases em with
            | true =>
              go_wp2
              go_roundw
              case rel => exact ⟨2, _, true, rfl, by go_num, by omega, RC.out⟩
              case measure => simp [intOf]
            | false =>
              go_wp2
              go_roundw
              case rel => exact ⟨2, _, false, rfl, by go_num, by omega, RC.out⟩
              case measure => simp [intOf]
          | false =>
            have RC : Hid (Rd w w1 B t T T2 n p 2 false) := RD.out.call C1.out C2.out
            cases em with
            | true =>
              go_wp2
              go_roundw
              case rel => exact ⟨2, _, false, rfl, by go_num, by omega, RC.out⟩
              case measure => simp [intOf]
            | false =>
              go_wp2
              go_roundw
              case rel => exact ⟨2, _, false, rfl, by go_num, by omega, RC.out⟩
              case measure => simp [intOf]
      | 2, _ =>
        have HE : Hid (PrP w B t T n p (.returned (.bool em)) wr) := by
          refine ⟨T', em, rfl, RD.out.pr, fun q hq => RD.out.out q (fun c _ h => hq ((List.prefix_append p [c]).trans h)), fun he => ⟨(RD.out.em he).1, fun c => ?_⟩⟩
          by_cases hc2 : c < 2
          · exact (RD.out.em he).2 c hc2
          · cases h1 : T' (p ++ [c]) with
            | none => rfl
            | some x => exact absurd ((RD.out.pr.tr.bits _ x h1).2 c (by simp)) hc2
        go_wp2
        go_ret
        exact HE.out
end Go.Proofs.Ytmboadgmhafedaa
