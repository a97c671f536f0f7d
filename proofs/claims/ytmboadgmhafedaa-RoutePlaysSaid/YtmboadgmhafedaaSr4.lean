/-
  slices.SortStableFunc at routes, 4: symMerge where one side is one element. Printed by gen_sym.py.
-/
import Derived.Test.YtmboadgmhafedaaSr2
import Derived.Test.YtmboadgmhafedaaSr3
set_option linter.unusedVariables false
namespace Go.Proofs.Ytmboadgmhafedaa
open Go.RowKit

theorem srt_ins2 {T1 T2 : List R4} {x : R4} (hs : Srt (T1 ++ T2)) (h2 : ∀ t ∈ T2, t.y ≤ x.y) (h1 : ∀ t ∈ T1, x.y ≤ t.y) : Srt (T1 ++ x :: T2) := by
  obtain ⟨s1, s2, s3⟩ := Srt.app.1 hs
  refine Srt.app.2 ⟨s1, Srt.cons.2 ⟨h2, s2⟩, fun a ha b hb => ?_⟩
  rcases List.mem_cons.1 hb with rfl | hb
  · exact h1 a ha
  · exact s3 a ha b hb
theorem Srt.at_ {L : List R4} (h : Srt L) {i j : Nat} {x y : R4} (hx : L[i]? = some x) (hy : L[j]? = some y) (hij : i ≤ j) : y.y ≤ x.y := by
  rcases Nat.lt_or_eq_of_le hij with h1 | h1
  · obtain ⟨h2, h3⟩ := List.getElem?_eq_some_iff.1 hx
    obtain ⟨h4, h5⟩ := List.getElem?_eq_some_iff.1 hy
    have := List.pairwise_iff_getElem.1 h i j h2 h4 h1
    rw [h3, h5] at this
    exact this
  · subst h1
    rw [hx] at hy
    injection hy with hy
    subst hy
    omega
-- a cut of a sorted list: what stands ahead of it is as great as its last, what stands behind it not greater than its first
theorem cut_hi {L : List R4} (h : Srt L) {k : Nat} {t : R4} (ht : L[k]? = some t) : ∀ q ∈ L.take (k + 1), t.y ≤ q.y := by
  intro q hq
  obtain ⟨i, hi⟩ := List.getElem?_of_mem hq
  rw [List.getElem?_take] at hi
  split at hi
  · exact h.at_ hi ht (by omega)
  · cases hi
theorem cut_lo {L : List R4} (h : Srt L) {k : Nat} {t : R4} (ht : L[k]? = some t) : ∀ q ∈ L.drop k, q.y ≤ t.y := by
  intro q hq
  obtain ⟨i, hi⟩ := List.getElem?_of_mem hq
  rw [List.getElem?_drop] at hi
  exact h.at_ ht hi (by omega)
theorem in_left {A : List R4} {U R : List R4} {a k : Nat} {x : R4} (ha : A.length = a) (h : U[k]? = some x) : (A ++ U ++ R)[a + k]? = some x := by
  have := (List.getElem?_eq_some_iff.1 h).1
  rw [List.append_assoc, List.getElem?_append_right (by omega), show a + k - A.length = k by omega, List.getElem?_append_left this]
  exact h
set_option maxRecDepth 20000 in
set_option maxHeartbeats 6400000 in
theorem symLeft (w : World) {B g n c : Nat} {A V Z : List R4} {u : R4} (o : OwnL w B (.slice (some ⟨g, 0, none⟩) n c) (A ++ [u] ++ V ++ Z)) (a m b : Nat) (ha : A.length = a) (hm : a + 1 = m) (hb : m + V.length = b) (hs : Srt V) (hn : n ≤ 1000) :
    Calls Try.prog 40 #[.slice (some ⟨g, 0, none⟩) n c, .int .i64 a, .int .i64 m, .int .i64 b, cmpV] w fun e w' => SoP w B g n c A ([u] ++ V) Z e w' := by
  have hl := o.len
  simp only [List.length_append, List.length_cons, List.length_nil] at hl
  have HO := Lib.hid o
  have HA := Lib.hid ha
  have HB := Lib.hid hb
  have HS := Lib.hid hs
  have hbn : b ≤ n := by omega
  have hmb : m ≤ b := by omega
  have e1 : (m : Int) - a = 1 := by omega
  have HLEN := Lib.hid hl
  clear o ha hb hs hl
  unfold cmpV
  go_enter Try.func40, Try.ntmps40
  go_wp2
  go_loopw [10, 11] (fun iv jv wr => ∃ i j : Nat, iv = .int .i64 i ∧ jv = .int .i64 j ∧ m ≤ i ∧ i ≤ j ∧ j ≤ b ∧ Hid (i = m ∨ ∃ t, V[i - 1 - m]? = some t ∧ u.y < t.y) ∧ Hid (j = b ∨ ∃ t, V[j - m]? = some t ∧ t.y ≤ u.y) ∧ Hid (Below w.heap.size w wr)) (fun iv jv _ => (intOf jv - intOf iv).toNat)
  case atStart => exact ⟨m, b, rfl, rfl, Nat.le_refl _, hmb, Nat.le_refl _, .inl rfl, .inl rfl, rf w⟩
  case round =>
    obtain ⟨i, j, rfl, rfl, hmi, hij, hjb, HI, HJ, HW⟩ := hrel
    have OW := Lib.hid (OwnL.nx HO.out HW.out)
    by_cases hlt : i < j
    · obtain ⟨h, hh⟩ : ∃ h, (i + j) / 2 = h := ⟨_, rfl⟩
      have h1 : i ≤ h := by omega
      have h2 : h < j := by omega
      have h3 : ((i : Int) + j) / 2 = h := by omega
      obtain ⟨t, ht⟩ : ∃ t, V[h - m]? = some t := ⟨_, List.getElem?_eq_getElem (by have := HB.out; omega)⟩
      have HT := Lib.hid ht
      have hx0 : (A ++ [u] ++ V ++ Z)[h]? = some t := by
        have := in_left (A := A ++ [u]) (R := Z) (a := m) (by have := HA.out; simp; omega) ht
        rw [show m + (h - m) = h by omega] at this
        exact this
      have hy0 : (A ++ [u] ++ V ++ Z)[a]? = some u := by
        have : A ++ [u] ++ V ++ Z = A ++ u :: (V ++ Z) := by simp
        rw [this, ← HA.out]
        exact at_mid _ _ _
      have k0 : (0 : Int) ≤ h := by omega
      have k1 : (h : Int) < n := by omega
      have k2 : (0 : Int) ≤ a := by omega
      have k3 : (a : Int) < n := by omega
      have k4 : (i : Int) < j := by omega
      clear hh ht
      obtain ⟨q, hq⟩ : ∃ q, cmp3 u.y t.y = q := ⟨_, rfl⟩
      have CM : Hid (∀ W : World, Calls Try.prog 25 #[.agg #[.int .u32 t.x, .int .i64 t.y, .int .u32 t.z, .int .i64 t.u], .agg #[.int .u32 u.x, .int .i64 u.y, .int .u32 u.z, .int .i64 u.u]] W fun e w' => e = .returned (.int .i64 q) ∧ Below W.heap.size W w') := fun W => by rw [← hq]; exact all2K t u W
      obtain ⟨_, hA, _, x0, x1, x2, x3⟩ := OW.out.cells hx0
      injection hA with hA; injection hA with hA; subst hA
      obtain ⟨_, hA, _, y0, y1, y2, y3⟩ := OW.out.cells hy0
      injection hA with hA; injection hA with hA; subst hA
      have X0 : ∀ z : Bw wr, z.w.cell? ⟨g, (h) * 4, none⟩ = some (.int .u32 t.x) := fun z => (z.h.cell (block_lt_of_cell x0)).trans x0
      have X1 : ∀ z : Bw wr, z.w.cell? ⟨g, (h) * 4 + 1, none⟩ = some (.int .i64 t.y) := fun z => (z.h.cell (block_lt_of_cell x1)).trans x1
      have X2 : ∀ z : Bw wr, z.w.cell? ⟨g, (h) * 4 + 2, none⟩ = some (.int .u32 t.z) := fun z => (z.h.cell (block_lt_of_cell x2)).trans x2
      have X3 : ∀ z : Bw wr, z.w.cell? ⟨g, (h) * 4 + 3, none⟩ = some (.int .i64 t.u) := fun z => (z.h.cell (block_lt_of_cell x3)).trans x3
      have Y0 : ∀ z : Bw wr, z.w.cell? ⟨g, (a) * 4, none⟩ = some (.int .u32 u.x) := fun z => (z.h.cell (block_lt_of_cell y0)).trans y0
      have Y1 : ∀ z : Bw wr, z.w.cell? ⟨g, (a) * 4 + 1, none⟩ = some (.int .i64 u.y) := fun z => (z.h.cell (block_lt_of_cell y1)).trans y1
      have Y2 : ∀ z : Bw wr, z.w.cell? ⟨g, (a) * 4 + 2, none⟩ = some (.int .u32 u.z) := fun z => (z.h.cell (block_lt_of_cell y2)).trans y2
      have Y3 : ∀ z : Bw wr, z.w.cell? ⟨g, (a) * 4 + 3, none⟩ = some (.int .i64 u.u) := fun z => (z.h.cell (block_lt_of_cell y3)).trans y3
      have HX := Lib.hid hx0
      have HY := Lib.hid hy0
      have HQ := Lib.hid hq
      clear hx0 hy0 x0 x1 x2 x3 y0 y1 y2 y3 hq
      go_wp2
      refine wp_region_below (by kernel_rfl) (by as_aux_lemma => exact lexB_of _ (by kernel_rfl) (by kernel_rfl)) ?_
      repeat (go_big_quiet_step (exact Calls.bw _ (CM.out _)))
      refine wpQuiet_nil ?_
      intro W hw'
      have hW : Below wr.heap.size wr W := by obtain ⟨z, hz⟩ := hw'; rw [hz]; exact z.h
      clear hw' X0 X1 X2 X3 Y0 Y1 Y2 Y3
      have HW2 := Lib.hid (nx HW.out hW)
      by_cases hlt2 : u.y < t.y
      · have hq1 : q = -1 := by rw [← HQ.out]; unfold cmp3; rw [if_pos hlt2]
        subst hq1
        have I2 : Hid (h + 1 = m ∨ ∃ t, V[h + 1 - 1 - m]? = some t ∧ u.y < t.y) := .inr ⟨t, HT.out, hlt2⟩
        clear hlt2 hW
        go_wp2
        go_roundw
        case rel => exact ⟨h + 1, j, by go_num, rfl, by omega, by omega, hjb, I2.out, HJ.out, HW2.out⟩
        case measure => simp [intOf]; omega
      · have hq0 : ¬ q < 0 := by rw [← HQ.out]; unfold cmp3; rw [if_neg hlt2]; split <;> omega
        have J2 : Hid (h = b ∨ ∃ t, V[h - m]? = some t ∧ t.y ≤ u.y) := .inr ⟨t, HT.out, by omega⟩
        clear hlt2 hW
        go_wp2
        go_roundw
        case rel => exact ⟨i, h, rfl, rfl, hmi, h1, by omega, HI.out, J2.out, HW2.out⟩
        case measure => simp [intOf]; omega
    · obtain rfl : i = j := by omega
      obtain ⟨p, rfl⟩ : ∃ p, i = m + p := ⟨i - m, by omega⟩
      have hpV : p ≤ V.length := by have := HB.out; omega
      have F1 : Hid (∀ v ∈ V.take p, u.y < v.y) := fun v hv => by
        rcases HI.out with h | ⟨t, ht, hlt⟩
        · have : p = 0 := by omega
          subst this
          simp at hv
        · by_cases hp0 : p = 0
          · subst hp0; simp at hv
          · have := cut_hi HS.out ht v (by rw [show m + p - 1 - m + 1 = p by omega]; exact hv)
            omega
      have F2 : Hid (∀ v ∈ V.drop p, v.y ≤ u.y) := fun v hv => by
        rcases HJ.out with h | ⟨t, ht, hlt⟩
        · rw [List.drop_eq_nil_of_le (by have := HB.out; omega)] at hv
          simp at hv
        · rw [show m + p - m = p by omega] at ht
          have := cut_lo HS.out ht v hv
          omega
      obtain ⟨V1, hV1⟩ : ∃ V1, V.take p = V1 := ⟨_, rfl⟩
      obtain ⟨V2, hV2⟩ : ∃ V2, V.drop p = V2 := ⟨_, rfl⟩
      have hV : V = V1 ++ V2 := by rw [← hV1, ← hV2, List.take_append_drop]
      have hl1 : V1.length = p := by rw [← hV1, List.length_take]; omega
      rw [hV1] at F1
      rw [hV2] at F2
      have HV := Lib.hid hV
      have HL1 := Lib.hid hl1
      have k4 : ¬ ((m + p : Nat) : Int) < ((m + p : Nat) : Int) := by omega
      have O0 : Hid (OwnL wr B (.slice (some ⟨g, 0, none⟩) n c) ((A ++ []) ++ u :: (V1 ++ V2 ++ Z))) := by
        have h := OW.out
        rw [hV] at h
        show OwnL _ _ _ _
        simpa using h
      have G0 : Hid (w.grownBy wr (some g)) := only_of HW.out
      have hpn : m + p ≤ n := by omega
      clear hV1 hV2 hV hl1 hpV HI HJ
      go_wp2
      go_loopw [13] (fun kv wr => ∃ (k : Nat) (X Y : List R4), kv = .int .i64 k ∧ k + 1 ≤ m + p ∧ a ≤ k ∧ Hid (V1 = X ++ Y) ∧ Hid (a + X.length = k) ∧ Hid (OwnL wr B (.slice (some ⟨g, 0, none⟩) n c) ((A ++ X) ++ u :: (Y ++ V2 ++ Z))) ∧ Hid (w.grownBy wr (some g))) (fun kv _ => (m + p - intOf kv).toNat)
      case atStart => exact ⟨a, [], V1, rfl, by omega, Nat.le_refl _, rfl, rfl, O0.out, G0.out⟩
      case round =>
        obtain ⟨k, X, Y, rfl, hk, hak, EV, LX, OX, GX⟩ := hrel
        by_cases hkp : k + 1 < m + p
        · obtain ⟨v, Y', rfl⟩ : ∃ v Y', Y = v :: Y' := by
            cases Y with
            | nil => have h1 := EV.out; have h2 := HL1.out; have h3 := LX.out; rw [List.append_nil] at h1; rw [h1] at h2; omega
            | cons v Y' => exact ⟨v, Y', rfl⟩
          have hp : (A ++ X).length = k := by have := LX.out; have := HA.out; rw [List.length_append]; omega
          have hx0 : ((A ++ X) ++ u :: (v :: Y' ++ V2 ++ Z))[k]? = some u := by rw [← hp]; exact at_mid _ _ _
          have hy0 : ((A ++ X) ++ u :: (v :: Y' ++ V2 ++ Z))[k + 1]? = some v := by rw [← hp]; exact at_mid1 _ _ _ _
          have hsw : sw ((A ++ X) ++ u :: (v :: Y' ++ V2 ++ Z)) k (k + 1) = (A ++ (X ++ [v])) ++ u :: (Y' ++ V2 ++ Z) := by
            rw [← hp]
            have := sw_adj' (A ++ X) u v (Y' ++ V2 ++ Z)
            simpa using this
          have q1 : (k : Int) < ((m : Int) + p) - 1 := by omega
          have q2 : (0 : Int) ≤ k := by omega
          have q3 : (k : Int) < n := by omega
          have q4 : (0 : Int) ≤ (k : Int) + 1 := by omega
          have q5 : (k : Int) + 1 < n := by omega
          have q6 : ((k : Int) + 1).toNat = k + 1 := by omega
          have EV2 : Hid (V1 = (X ++ [v]) ++ Y') := by show _ = _; rw [EV.out]; simp
          have LX2 : Hid (a + (X ++ [v]).length = k + 1) := by show _ = _; have := LX.out; rw [List.length_append, List.length_cons, List.length_nil]; omega
          have O3 : Hid (OwnL (put4 (put4 wr g k v) g (k + 1) u).drew B (.slice (some ⟨g, 0, none⟩) n c) ((A ++ (X ++ [v])) ++ u :: (Y' ++ V2 ++ Z))) := by
            have hne : (((A ++ X) ++ u :: (v :: Y' ++ V2 ++ Z)).set k v)[k + 1]? = some v := by rw [List.getElem?_set, if_neg (by omega)]; exact hy0
            have h1 := World.ownsRow.drew ((OX.out.put hx0 v).put hne u)
            rw [← sw_eq hx0 hy0, hsw] at h1
            exact h1
          have G3 : Hid (w.grownBy (put4 (put4 wr g k v) g (k + 1) u).drew (some g)) := only_drew (put4_only (put4_only GX.out _ _) _ _)
          obtain ⟨_, hA, _, x0, x1, x2, x3⟩ := OX.out.cells hx0
          injection hA with hA; injection hA with hA; subst hA
          obtain ⟨_, hA, _, y0, y1, y2, y3⟩ := OX.out.cells hy0
          injection hA with hA; injection hA with hA; subst hA
          have f0 := OX.out.fro ((k) * 4)
          have f1 := OX.out.fro ((k) * 4 + 1)
          have f2 := OX.out.fro ((k) * 4 + 2)
          have f3 := OX.out.fro ((k) * 4 + 3)
          have e0 := OX.out.fro ((k + 1) * 4)
          have e1 := OX.out.fro ((k + 1) * 4 + 1)
          have e2 := OX.out.fro ((k + 1) * 4 + 2)
          have e3 := OX.out.fro ((k + 1) * 4 + 3)
          clear hx0 hy0 hsw hp hkp
          go_wp2
          go_region
          go_wp2
          go_roundw
          case rel => exact ⟨k + 1, X ++ [v], Y', by go_num, by omega, by omega, EV2.out, LX2.out, O3.out, G3.out⟩
          case measure => simp [intOf]; omega
        · obtain rfl : k = m + p - 1 := by omega
          have hY : Y = [] := by
            have h1 := EV.out
            have h2 := HL1.out
            have h3 := LX.out
            rw [h1, List.length_append] at h2
            exact List.eq_nil_of_length_eq_zero (by omega)
          subst hY
          have hXV : X = V1 := by have := EV.out; rw [List.append_nil] at this; exact this.symm
          subst hXV
          have hE : SoP w B g n c A ([u] ++ V) Z (.returned (.tuple #[])) wr := by
            refine ⟨X ++ u :: V2, rfl, ?_, GX.out, ?_, ?_⟩
            · have h := OX.out
              simpa using h
            · rw [HV.out]
              have h := (Re.rot (U := [u]) (V := X) (fun q hq v hv => by simp at hq; subst hq; exact F1.out v hv)).left V2
              simpa using h
            · refine srt_ins2 ?_ F2.out (fun t ht => by have := F1.out t ht; omega)
              rw [← HV.out]
              exact HS.out
          have HE := Lib.hid hE
          have q1 : ¬ ((m + p - 1 : Nat) : Int) < ((m : Int) + p) - 1 := by omega
          clear hE hkp
          go_wp2
          go_end0
          exact HE.out
end Go.Proofs.Ytmboadgmhafedaa
