/-
  slices.SortStableFunc at routes, 5: symMerge where one element stands on the right. Printed by gen_sym2.py.
-/
import Derived.Test.YtmboadgmhafedaaSr4
set_option linter.unusedVariables false
namespace Go.Proofs.Ytmboadgmhafedaa
open Go.RowKit

set_option maxRecDepth 20000 in
set_option maxHeartbeats 6400000 in
theorem symRight (w : World) {B g n c : Nat} {A U Z : List R4} {v : R4} (o : OwnL w B (.slice (some ⟨g, 0, none⟩) n c) (A ++ U ++ [v] ++ Z)) (a m b : Nat) (ha : A.length = a) (hm : a + U.length = m) (hb : m + 1 = b) (hs : Srt U) (hu : 2 ≤ U.length) (hn : n ≤ 1000) :
    Calls Try.prog 40 #[.slice (some ⟨g, 0, none⟩) n c, .int .i64 a, .int .i64 m, .int .i64 b, cmpV] w fun e w' => SoP w B g n c A (U ++ [v]) Z e w' := by
  have hl := o.len
  simp only [List.length_append, List.length_cons, List.length_nil] at hl
  have HO := Lib.hid o
  have HA := Lib.hid ha
  have HB := Lib.hid hm
  have HS := Lib.hid hs
  have hbn : b ≤ n := by omega
  have hmb : a ≤ m := by omega
  have e0 : ((m : Int) - a == 1) = false := by simp; omega
  have e1 : (b : Int) - m = 1 := by omega
  have HLEN := Lib.hid hl
  clear o ha hm hs hl hu
  unfold cmpV
  go_enter Try.func40, Try.ntmps40
  go_wp2
  go_loopw [14, 15] (fun iv jv wr => ∃ i j : Nat, iv = .int .i64 i ∧ jv = .int .i64 j ∧ a ≤ i ∧ i ≤ j ∧ j ≤ m ∧ Hid (i = a ∨ ∃ t, U[i - 1 - a]? = some t ∧ v.y ≤ t.y) ∧ Hid (j = m ∨ ∃ t, U[j - a]? = some t ∧ t.y < v.y) ∧ Hid (Below w.heap.size w wr)) (fun iv jv _ => (intOf jv - intOf iv).toNat)
  case atStart => exact ⟨a, m, rfl, rfl, Nat.le_refl _, hmb, Nat.le_refl _, .inl rfl, .inl rfl, rf w⟩
  case round =>
    obtain ⟨i, j, rfl, rfl, hmi, hij, hjb, HI, HJ, HW⟩ := hrel
    have OW := Lib.hid (OwnL.nx HO.out HW.out)
    by_cases hlt : i < j
    · obtain ⟨h, hh⟩ : ∃ h, (i + j) / 2 = h := ⟨_, rfl⟩
      have h1 : i ≤ h := by omega
      have h2 : h < j := by omega
      have h3 : ((i : Int) + j) / 2 = h := by omega
      obtain ⟨t, ht⟩ : ∃ t, U[h - a]? = some t := ⟨_, List.getElem?_eq_getElem (by have := HB.out; omega)⟩
      have HT := Lib.hid ht
      have hy0 : (A ++ U ++ [v] ++ Z)[h]? = some t := by
        have := in_left (A := A) (R := [v] ++ Z) (a := a) HA.out ht
        rw [show a + (h - a) = h by omega] at this
        rw [← this]
        simp
      have hx0 : (A ++ U ++ [v] ++ Z)[m]? = some v := by
        have h5 : A ++ U ++ [v] ++ Z = (A ++ U) ++ v :: Z := by simp
        have h6 : (A ++ U).length = m := by have := HA.out; have := HB.out; rw [List.length_append]; omega
        rw [h5, ← h6]
        exact at_mid _ _ _
      have k0 : (0 : Int) ≤ h := by omega
      have k1 : (h : Int) < n := by omega
      have k2 : (0 : Int) ≤ m := by omega
      have k3 : (m : Int) < n := by omega
      have k4 : (i : Int) < j := by omega
      clear hh ht
      obtain ⟨q, hq⟩ : ∃ q, cmp3 t.y v.y = q := ⟨_, rfl⟩
      have CM : Hid (∀ W : World, Calls Try.prog 25 #[.agg #[.int .u32 v.x, .int .i64 v.y, .int .u32 v.z, .int .i64 v.u], .agg #[.int .u32 t.x, .int .i64 t.y, .int .u32 t.z, .int .i64 t.u]] W fun e w' => e = .returned (.int .i64 q) ∧ Below W.heap.size W w') := fun W => by rw [← hq]; exact all2K v t W
      obtain ⟨_, hA, _, x0, x1, x2, x3⟩ := OW.out.cells hx0
      injection hA with hA; injection hA with hA; subst hA
      obtain ⟨_, hA, _, y0, y1, y2, y3⟩ := OW.out.cells hy0
      injection hA with hA; injection hA with hA; subst hA
      have X0 : ∀ z : Bw wr, z.w.cell? ⟨g, (m) * 4, none⟩ = some (.int .u32 v.x) := fun z => (z.h.cell (block_lt_of_cell x0)).trans x0
      have X1 : ∀ z : Bw wr, z.w.cell? ⟨g, (m) * 4 + 1, none⟩ = some (.int .i64 v.y) := fun z => (z.h.cell (block_lt_of_cell x1)).trans x1
      have X2 : ∀ z : Bw wr, z.w.cell? ⟨g, (m) * 4 + 2, none⟩ = some (.int .u32 v.z) := fun z => (z.h.cell (block_lt_of_cell x2)).trans x2
      have X3 : ∀ z : Bw wr, z.w.cell? ⟨g, (m) * 4 + 3, none⟩ = some (.int .i64 v.u) := fun z => (z.h.cell (block_lt_of_cell x3)).trans x3
      have Y0 : ∀ z : Bw wr, z.w.cell? ⟨g, (h) * 4, none⟩ = some (.int .u32 t.x) := fun z => (z.h.cell (block_lt_of_cell y0)).trans y0
      have Y1 : ∀ z : Bw wr, z.w.cell? ⟨g, (h) * 4 + 1, none⟩ = some (.int .i64 t.y) := fun z => (z.h.cell (block_lt_of_cell y1)).trans y1
      have Y2 : ∀ z : Bw wr, z.w.cell? ⟨g, (h) * 4 + 2, none⟩ = some (.int .u32 t.z) := fun z => (z.h.cell (block_lt_of_cell y2)).trans y2
      have Y3 : ∀ z : Bw wr, z.w.cell? ⟨g, (h) * 4 + 3, none⟩ = some (.int .i64 t.u) := fun z => (z.h.cell (block_lt_of_cell y3)).trans y3
      have HX := Lib.hid hx0
      have HY := Lib.hid hy0
      have HQ := Lib.hid hq
      clear hx0 hy0 x0 x1 x2 x3 y0 y1 y2 y3 hq
      go_wp2
      refine wp_region_below (by kernel_rfl) (by as_aux_lemma => exact lexB_of _ (by kernel_rfl) (by kernel_rfl)) ?_
      repeat (go_big_quiet_step (exact Calls.bw _ (CM.out _)))
      refine wpQuiet_nil ?_
      intro W hw'
      have hW : Below wr.heap.size wr W := by obtain ⟨z, hz⟩ := hw'; rw [hz]; exact z.h
      clear hw' X0 X1 X2 X3 Y0 Y1 Y2 Y3
      have HW2 := Lib.hid (nx HW.out hW)
      by_cases hlt2 : t.y < v.y
      · have hq1 : q = -1 := by rw [← HQ.out]; unfold cmp3; rw [if_pos hlt2]
        subst hq1
        have J2 : Hid (h = m ∨ ∃ t, U[h - a]? = some t ∧ t.y < v.y) := .inr ⟨t, HT.out, hlt2⟩
        clear hlt2 hW
        go_wp2
        go_roundw
        case rel => exact ⟨i, h, rfl, rfl, hmi, h1, by omega, HI.out, J2.out, HW2.out⟩
        case measure => simp [intOf]; omega
      · have hq0 : ¬ q < 0 := by rw [← HQ.out]; unfold cmp3; rw [if_neg hlt2]; split <;> omega
        have hq01 : q = 0 ∨ q = 1 := by rw [← HQ.out]; unfold cmp3; rw [if_neg hlt2]; split <;> omega
        have I2 : Hid (h + 1 = a ∨ ∃ t, U[h + 1 - 1 - a]? = some t ∧ v.y ≤ t.y) := .inr ⟨t, HT.out, by omega⟩
        clear hlt2 hW hq0
        rcases hq01 with rfl | rfl
        all_goals
          go_wp2
          go_roundw
          case rel => exact ⟨h + 1, j, by go_num, rfl, by omega, by omega, hjb, I2.out, HJ.out, HW2.out⟩
          case measure => simp [intOf]; omega
    · obtain rfl : i = j := by omega
      obtain ⟨p, rfl⟩ : ∃ p, i = a + p := ⟨i - a, by omega⟩
      have hpV : p ≤ U.length := by have := HB.out; omega
      have F1 : Hid (∀ t ∈ U.take p, v.y ≤ t.y) := fun q hq => by
        rcases HI.out with h | ⟨t, ht, hlt⟩
        · have : p = 0 := by omega
          subst this
          simp at hq
        · by_cases hp0 : p = 0
          · subst hp0; simp at hq
          · have := cut_hi HS.out ht q (by rw [show a + p - 1 - a + 1 = p by omega]; exact hq)
            omega
      have F2 : Hid (∀ t ∈ U.drop p, t.y < v.y) := fun q hq => by
        rcases HJ.out with h | ⟨t, ht, hlt⟩
        · rw [List.drop_eq_nil_of_le (by have := HB.out; omega)] at hq
          simp at hq
        · rw [show a + p - a = p by omega] at ht
          have := cut_lo HS.out ht q hq
          omega
      obtain ⟨U1, hU1⟩ : ∃ U1, U.take p = U1 := ⟨_, rfl⟩
      obtain ⟨U2, hU2⟩ : ∃ U2, U.drop p = U2 := ⟨_, rfl⟩
      have hU : U = U1 ++ U2 := by rw [← hU1, ← hU2, List.take_append_drop]
      have hl1 : U1.length = p := by rw [← hU1, List.length_take]; omega
      rw [hU1] at F1
      rw [hU2] at F2
      have HV := Lib.hid hU
      have HL1 := Lib.hid hl1
      have k4 : ¬ ((a + p : Nat) : Int) < ((a + p : Nat) : Int) := by omega
      have O0 : Hid (OwnL wr B (.slice (some ⟨g, 0, none⟩) n c) ((A ++ U1 ++ U2) ++ v :: ([] ++ Z))) := by
        have h := OW.out
        rw [hU] at h
        show OwnL _ _ _ _
        simpa using h
      have G0 : Hid (w.grownBy wr (some g)) := only_of HW.out
      have hpn : a + p ≤ m := by omega
      have L0 : Hid (a + p + U2.length = m) := by show _ = _; have h1 := HB.out; rw [hU, List.length_append] at h1; omega
      clear hU1 hU2 hU hl1 hpV HI HJ
      go_wp2
      go_loopw [17] (fun kv wr => ∃ (k : Nat) (X Y : List R4), kv = .int .i64 k ∧ a + p ≤ k ∧ k ≤ m ∧ Hid (U2 = X ++ Y) ∧ Hid (a + p + X.length = k) ∧ Hid (OwnL wr B (.slice (some ⟨g, 0, none⟩) n c) ((A ++ U1 ++ X) ++ v :: (Y ++ Z))) ∧ Hid (w.grownBy wr (some g))) (fun kv _ => (intOf kv).toNat)
      case atStart => exact ⟨m, U2, [], rfl, hpn, Nat.le_refl _, by show _ = _; simp, L0.out, O0.out, G0.out⟩
      case round =>
        obtain ⟨k, X, Y, rfl, hak, hk, EV, LX, OX, GX⟩ := hrel
        by_cases hkp : a + p < k
        · obtain ⟨X', t, rfl⟩ : ∃ X' t, X = X' ++ [t] := by
            rcases List.eq_nil_or_concat X with h | ⟨X', t, h⟩
            · subst h; have := LX.out; simp at this; omega
            · exact ⟨X', t, by simpa using h⟩
          obtain ⟨s, rfl⟩ : ∃ s, k = s + 1 := ⟨k - 1, by omega⟩
          have hlx : a + p + X'.length = s := by have := LX.out; simp at this; omega
          have hp : (A ++ U1 ++ X').length = s := by have := HL1.out; have := HA.out; simp only [List.length_append]; omega
          have hL : (A ++ U1 ++ (X' ++ [t])) ++ v :: (Y ++ Z) = (A ++ U1 ++ X') ++ t :: v :: (Y ++ Z) := by simp
          have hx0 : ((A ++ U1 ++ (X' ++ [t])) ++ v :: (Y ++ Z))[s + 1]? = some v := by rw [hL, ← hp]; exact at_mid1 _ _ _ _
          have hy0 : ((A ++ U1 ++ (X' ++ [t])) ++ v :: (Y ++ Z))[s]? = some t := by rw [hL, ← hp]; exact at_mid _ _ _
          have hsw : sw ((A ++ U1 ++ (X' ++ [t])) ++ v :: (Y ++ Z)) (s + 1) s = (A ++ U1 ++ X') ++ v :: ((t :: Y) ++ Z) := by
            rw [hL, ← hp]
            exact sw_adj _ _ _ _
          have q1 : (a : Int) + p < (s : Int) + 1 := by omega
          have q2 : (0 : Int) ≤ s := by omega
          have q3 : (s : Int) < n := by omega
          have q4 : (0 : Int) ≤ (s : Int) + 1 := by omega
          have q5 : (s : Int) + 1 < n := by omega
          have q6 : ((s : Int) + 1).toNat = s + 1 := by omega
          have q7 : ((s : Int) + 1) - 1 = s := by omega
          have EV2 : Hid (U2 = X' ++ t :: Y) := by show _ = _; rw [EV.out]; simp
          have LX2 := Lib.hid hlx
          have O3 : Hid (OwnL (put4 (put4 wr g (s + 1) t) g s v).drew B (.slice (some ⟨g, 0, none⟩) n c) ((A ++ U1 ++ X') ++ v :: ((t :: Y) ++ Z))) := by
            have hne : (((A ++ U1 ++ (X' ++ [t])) ++ v :: (Y ++ Z)).set (s + 1) t)[s]? = some t := by rw [List.getElem?_set, if_neg (by omega)]; exact hy0
            have h1 := World.ownsRow.drew ((OX.out.put hx0 t).put hne v)
            rw [← sw_eq hx0 hy0, hsw] at h1
            exact h1
          have G3 : Hid (w.grownBy (put4 (put4 wr g (s + 1) t) g s v).drew (some g)) := only_drew (put4_only (put4_only GX.out _ _) _ _)
          obtain ⟨_, hA, _, x0, x1, x2, x3⟩ := OX.out.cells hx0
          injection hA with hA; injection hA with hA; subst hA
          obtain ⟨_, hA, _, y0, y1, y2, y3⟩ := OX.out.cells hy0
          injection hA with hA; injection hA with hA; subst hA
          have f0 := OX.out.fro ((s + 1) * 4)
          have f1 := OX.out.fro ((s + 1) * 4 + 1)
          have f2 := OX.out.fro ((s + 1) * 4 + 2)
          have f3 := OX.out.fro ((s + 1) * 4 + 3)
          have e0 := OX.out.fro ((s) * 4)
          have e1 := OX.out.fro ((s) * 4 + 1)
          have e2 := OX.out.fro ((s) * 4 + 2)
          have e3 := OX.out.fro ((s) * 4 + 3)
          clear hx0 hy0 hsw hp hkp hL hlx
          go_wp2
          go_region
          go_wp2
          go_roundw
          case rel => exact ⟨s, X', t :: Y, by go_num, by omega, by omega, EV2.out, LX2.out, O3.out, G3.out⟩
          case measure => simp [intOf]
        · obtain rfl : k = a + p := by omega
          have hX : X = [] := List.eq_nil_of_length_eq_zero (by have := LX.out; omega)
          subst hX
          have hYU : Y = U2 := by have := EV.out; simpa using this.symm
          subst hYU
          have hE : SoP w B g n c A (U ++ [v]) Z (.returned (.tuple #[])) wr := by
            refine ⟨U1 ++ v :: Y, rfl, ?_, GX.out, ?_, ?_⟩
            · have h := OX.out
              simpa using h
            · rw [HV.out]
              have h := (Re.rot (U := Y) (V := [v]) (fun q hq t ht => by simp at ht; subst ht; exact F2.out q hq)).right U1
              simpa using h
            · refine srt_ins ?_ F2.out F1.out
              rw [← HV.out]
              exact HS.out
          have HE := Lib.hid hE
          have q1 : ¬ (a : Int) + p < ((a + p : Nat) : Int) := by omega
          clear hE hkp
          go_wp2
          go_end0
          exact HE.out
end Go.Proofs.Ytmboadgmhafedaa
