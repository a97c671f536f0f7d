/-
  slices.SortStableFunc at routes, 2: insertion sort.
-/
import Derived.Test.YtmboadgmhafedaaSrP
import Derived.Test.YtmboadgmhafedaaLex
set_option linter.unusedVariables false
namespace Go.Proofs.Ytmboadgmhafedaa
open Go.RowKit

-- what a call that rearranges the part of a row leaves
def SoP (w : World) (B g n c : Nat) (A S Z : List R4) (e : Ending) (w' : World) : Prop :=
  ∃ S', e = .returned (.tuple #[]) ∧ OwnL w' B (.slice (some ⟨g, 0, none⟩) n c) (A ++ S' ++ Z) ∧ w.grownBy w' (some g) ∧ Re S' S ∧ Srt S'
set_option maxRecDepth 10000 in
set_option maxHeartbeats 3200000 in
theorem insSortK (w : World) {B g n c : Nat} {A S Z : List R4} (o : OwnL w B (.slice (some ⟨g, 0, none⟩) n c) (A ++ S ++ Z)) (a b : Nat) (ha : A.length = a) (hb : a + S.length = b) (hn : n ≤ 1000) (hg : g < w.heap.size) :
    Calls Try.prog 39 #[.slice (some ⟨g, 0, none⟩) n c, .int .i64 a, .int .i64 b, cmpV] w fun e w' => SoP w B g n c A S Z e w' := by
  have hl := o.len
  rw [List.length_append, List.length_append] at hl
  have hbn : b ≤ n := by omega
  by_cases hS : S = []
  · subst hS
    have hE : SoP w B g n c A [] Z (.returned (.tuple #[])) w := ⟨[], rfl, o, World.grownBy.refl _ _, Re.refl _, Srt.nil⟩
    have HE := Lib.hid hE
    have hba : b = a := by simpa using hb.symm
    subst hba
    clear o hE ha hb hl
    unfold cmpV
    go_enter Try.func39, Try.ntmps39
    go_wp2
    go_loopw [8] (fun iv wr => iv = .int .i64 (b + 1) ∧ wr = w) (fun iv _ => 0)
    case atStart => exact ⟨rfl, rfl⟩
    case round =>
      obtain ⟨rfl, rfl⟩ := hrel
      have : ¬ (b : Int) + 1 < b := by omega
      go_wp2
      go_end0
      exact HE.out
  have hpos : 0 < S.length := List.length_pos_iff.2 hS
  have HO := Lib.hid o
  have HA := Lib.hid ha
  have HB := Lib.hid hb
  have HG := Lib.hid hg
  have hab : a < b := by omega
  clear o ha hb hl hS hpos hg
  unfold cmpV
  go_enter Try.func39, Try.ntmps39
  go_wp2
  go_loopw [8] (fun iv wr => ∃ (i : Nat) (T D : List R4), iv = .int .i64 i ∧ a < i ∧ i ≤ b ∧ Hid (OwnL wr B (.slice (some ⟨g, 0, none⟩) n c) (A ++ (T ++ D) ++ Z)) ∧ Hid (a + T.length = i) ∧ Hid (Re (T ++ D) S) ∧ Hid (Srt T) ∧ Hid (w.grownBy wr (some g))) (fun iv _ => b - (intOf iv).toNat)
  case atStart =>
    obtain ⟨s, S', rfl⟩ : ∃ s S', S = s :: S' := by
      cases S with
      | nil => have := HB.out; simp at this; omega
      | cons s S' => exact ⟨s, S', rfl⟩
    exact ⟨a + 1, [s], S', by go_num, by omega, by omega, HO.out, rfl, Re.refl _, Srt.one _, World.grownBy.refl _ _⟩
  case round =>
    obtain ⟨i, T, D, rfl, hai, hib, OT, LT, RT, ST, GT⟩ := hrel
    by_cases hlt : i < b
    · have i1 : (i : Int) < b := by omega
      obtain ⟨x, D', rfl⟩ : ∃ x D', D = x :: D' := by
        cases D with
        | nil => have h1 := LT.out; have h2 := RT.out.len; have h3 := HB.out; simp at h2; omega
        | cons x D' => exact ⟨x, D', rfl⟩
      go_wp2
      go_loopw [9] (fun jv wr => ∃ (j : Nat) (T1 T2 : List R4), jv = .int .i64 j ∧ a ≤ j ∧ j ≤ i ∧ Hid (OwnL wr B (.slice (some ⟨g, 0, none⟩) n c) ((A ++ T1) ++ x :: (T2 ++ D' ++ Z))) ∧ Hid (a + T1.length = j) ∧ Hid (T1 ++ T2 = T) ∧ Hid (∀ t ∈ T2, t.y < x.y) ∧ Hid (w.grownBy wr (some g))) (fun jv _ => (intOf jv).toNat)
      case atStart => exact ⟨i, T, [], rfl, by omega, Nat.le_refl _, by show OwnL _ _ _ _; have := OT.out; simpa using this, LT.out, by show _ = _; simp, fun t ht => by simp at ht, GT.out⟩
      case round =>
        obtain ⟨j, T1, T2, rfl, haj, hji, OJ, LJ, EJ, FJ, GJ⟩ := hrel
        have hln := OJ.out.len
        by_cases hja : a < j
        · have j1 : (a : Int) < j := by omega
          obtain ⟨T1', t, rfl⟩ : ∃ T1' t, T1 = T1' ++ [t] := by
            rcases List.eq_nil_or_concat T1 with h | ⟨T1', t, h⟩
            · subst h; have := LJ.out; simp at this; omega
            · exact ⟨T1', t, by simpa using h⟩
          have hL : (A ++ (T1' ++ [t])) ++ x :: (T2 ++ D' ++ Z) = (A ++ T1') ++ t :: x :: (T2 ++ D' ++ Z) := by simp
          have hp : (A ++ T1').length + 1 = j := by have := LJ.out; have := HA.out; simp at *; omega
          obtain ⟨p, hpp⟩ : ∃ p, (A ++ T1').length = p := ⟨_, rfl⟩
          have hx0 : ((A ++ (T1' ++ [t])) ++ x :: (T2 ++ D' ++ Z))[j]? = some x := by rw [hL, ← hp]; exact at_mid1 _ _ _ _
          have ht0 : ((A ++ (T1' ++ [t])) ++ x :: (T2 ++ D' ++ Z))[p]? = some t := by rw [hL, ← hpp]; exact at_mid _ _ _
          rw [hpp] at hp
          obtain rfl : j = p + 1 := hp.symm
          have jn := (List.getElem?_eq_some_iff.1 hx0).1
          rw [hln] at jn
          obtain ⟨_, hA, _, x0, x1, x2, x3⟩ := OJ.out.cells hx0
          injection hA with hA; injection hA with hA; subst hA
          obtain ⟨_, hA, _, y0, y1, y2, y3⟩ := OJ.out.cells ht0
          injection hA with hA; injection hA with hA; subst hA
          have k0 : (0 : Int) ≤ (p : Int) + 1 := by omega
          have k1 : (p : Int) + 1 < n := by omega
          have kd : decide ((a : Int) < (p : Int) + 1) = true := by simpa using j1
          have k2 : ((p : Int) + 1) - 1 = p := by omega
          have k3 : (0 : Int) ≤ p := by omega
          have k4 : (p : Int) < n := by omega
          obtain ⟨q, hq⟩ : ∃ q, cmp3 t.y x.y = q := ⟨_, rfl⟩
          have CM : Hid (∀ W : World, Calls Try.prog 25 #[.agg #[.int .u32 x.x, .int .i64 x.y, .int .u32 x.z, .int .i64 x.u], .agg #[.int .u32 t.x, .int .i64 t.y, .int .u32 t.z, .int .i64 t.u]] W fun e w' => e = .returned (.int .i64 q) ∧ Below W.heap.size W w') := fun W => by rw [← hq]; exact all2K x t W
          have HX := Lib.hid hx0
          have HT := Lib.hid ht0
          have HL := Lib.hid hL
          have HP := Lib.hid hpp
          have HN := Lib.hid hln
          have X0 : ∀ y : Bw wr, y.w.cell? ⟨g, (p + 1) * 4, none⟩ = some (.int .u32 x.x) := fun y => (y.h.cell (block_lt_of_cell x0)).trans x0
          have X1 : ∀ y : Bw wr, y.w.cell? ⟨g, (p + 1) * 4 + 1, none⟩ = some (.int .i64 x.y) := fun y => (y.h.cell (block_lt_of_cell x1)).trans x1
          have X2 : ∀ y : Bw wr, y.w.cell? ⟨g, (p + 1) * 4 + 2, none⟩ = some (.int .u32 x.z) := fun y => (y.h.cell (block_lt_of_cell x2)).trans x2
          have X3 : ∀ y : Bw wr, y.w.cell? ⟨g, (p + 1) * 4 + 3, none⟩ = some (.int .i64 x.u) := fun y => (y.h.cell (block_lt_of_cell x3)).trans x3
          have Y0 : ∀ y : Bw wr, y.w.cell? ⟨g, p * 4, none⟩ = some (.int .u32 t.x) := fun y => (y.h.cell (block_lt_of_cell y0)).trans y0
          have Y1 : ∀ y : Bw wr, y.w.cell? ⟨g, p * 4 + 1, none⟩ = some (.int .i64 t.y) := fun y => (y.h.cell (block_lt_of_cell y1)).trans y1
          have Y2 : ∀ y : Bw wr, y.w.cell? ⟨g, p * 4 + 2, none⟩ = some (.int .u32 t.z) := fun y => (y.h.cell (block_lt_of_cell y2)).trans y2
          have Y3 : ∀ y : Bw wr, y.w.cell? ⟨g, p * 4 + 3, none⟩ = some (.int .i64 t.u) := fun y => (y.h.cell (block_lt_of_cell y3)).trans y3
          have HQ := Lib.hid hq
          clear hx0 ht0 hL hpp hln x0 x1 x2 x3 y0 y1 y2 y3 hq
          go_wp2
          refine wp_region_below (by kernel_rfl) (by as_aux_lemma => exact lexB_of _ (by kernel_rfl) (by kernel_rfl)) ?_
          repeat (go_big_quiet_step (exact Calls.bw _ (CM.out _)))
          refine wpQuiet_nil ?_
          intro W hw'
          have hW : Below wr.heap.size wr W := by obtain ⟨y, hy⟩ := hw'; rw [hy]; exact y.h
          clear hw'
          have OW := Lib.hid (OwnL.nx OJ.out hW)
          have GW := Lib.hid (only_nx GJ.out hW)
          by_cases hlt2 : t.y < x.y
          · have hq1 : q = -1 := by rw [← HQ.out]; unfold cmp3; rw [if_pos hlt2]
            subst hq1
            have x0 : W.cell? ⟨g, (p + 1) * 4, none⟩ = some (.int .u32 x.x) := X0 ⟨W, hW⟩
            have x1 : W.cell? ⟨g, (p + 1) * 4 + 1, none⟩ = some (.int .i64 x.y) := X1 ⟨W, hW⟩
            have x2 : W.cell? ⟨g, (p + 1) * 4 + 2, none⟩ = some (.int .u32 x.z) := X2 ⟨W, hW⟩
            have x3 : W.cell? ⟨g, (p + 1) * 4 + 3, none⟩ = some (.int .i64 x.u) := X3 ⟨W, hW⟩
            have y0 : W.cell? ⟨g, p * 4, none⟩ = some (.int .u32 t.x) := Y0 ⟨W, hW⟩
            have y1 : W.cell? ⟨g, p * 4 + 1, none⟩ = some (.int .i64 t.y) := Y1 ⟨W, hW⟩
            have y2 : W.cell? ⟨g, p * 4 + 2, none⟩ = some (.int .u32 t.z) := Y2 ⟨W, hW⟩
            have y3 : W.cell? ⟨g, p * 4 + 3, none⟩ = some (.int .i64 t.u) := Y3 ⟨W, hW⟩
            have f0 := OW.out.fro ((p + 1) * 4)
            have f1 := OW.out.fro ((p + 1) * 4 + 1)
            have f2 := OW.out.fro ((p + 1) * 4 + 2)
            have f3 := OW.out.fro ((p + 1) * 4 + 3)
            have e0 := OW.out.fro (p * 4)
            have e1 := OW.out.fro (p * 4 + 1)
            have e2 := OW.out.fro (p * 4 + 2)
            have e3 := OW.out.fro (p * 4 + 3)
            have tp : ((p : Int) + 1).toNat = p + 1 := by omega
            have O2 : Hid (OwnL (put4 (put4 W g (p + 1) t) g p x).drew B (.slice (some ⟨g, 0, none⟩) n c) ((A ++ T1') ++ x :: ((t :: T2) ++ D' ++ Z))) := by
              have hne : (((A ++ (T1' ++ [t])) ++ x :: (T2 ++ D' ++ Z)).set (p + 1) t)[p]? = some t := by rw [List.getElem?_set, if_neg (by omega)]; exact HT.out
              have h1 := World.ownsRow.drew ((OW.out.put HX.out t).put hne x)
              have hsw : sw ((A ++ (T1' ++ [t])) ++ x :: (T2 ++ D' ++ Z)) (p + 1) p = (A ++ T1') ++ x :: ((t :: T2) ++ D' ++ Z) := by
                rw [HL.out, ← HP.out]
                exact sw_adj _ _ _ _
              rw [← sw_eq HX.out HT.out, hsw] at h1
              exact h1
            have G2 : Hid (w.grownBy (put4 (put4 W g (p + 1) t) g p x).drew (some g)) := only_drew (put4_only (put4_only GW.out _ _) _ _)
            have L2 : Hid (a + T1'.length = p) := by show _ = _; have := HP.out; have := HA.out; rw [List.length_append] at *; omega
            have E2 : Hid (T1' ++ t :: T2 = T) := by show _ = _; rw [← EJ.out]; simp
            have F2 : Hid (∀ q ∈ t :: T2, q.y < x.y) := fun q hq => by
              rcases List.mem_cons.1 hq with rfl | hq
              · exact hlt2
              · exact FJ.out q hq
            have hap : a ≤ p := by omega
            have hpi : p ≤ i := by omega
            clear hlt2 X0 X1 X2 X3 Y0 Y1 Y2 Y3 hW
            go_wp2
            go_region
            go_wp2
            go_roundw
            case rel => exact ⟨p, T1', t :: T2, by go_num, hap, hpi, O2.out, L2.out, E2.out, F2.out, G2.out⟩
            case measure => simp [intOf]
          · have hq0 : ¬ q < 0 := by rw [← HQ.out]; unfold cmp3; rw [if_neg hlt2]; split <;> omega
            have S2 : Hid (Srt ((T1' ++ [t]) ++ x :: T2)) := srt_ins (by rw [EJ.out]; exact ST.out) FJ.out (last_ge (by have h := ST.out; rw [← EJ.out] at h; exact (Srt.app.1 h).1) (by omega))
            have R2 : Hid (Re (((T1' ++ [t]) ++ x :: T2) ++ D') S) := by
              refine Re.trans ?_ RT.out
              have h := (Re.rot (U := T2) (V := [x]) (fun u hu v hv => by simp at hv; subst hv; exact FJ.out u hu)).ctx (T1' ++ [t]) D'
              rw [← EJ.out]
              simpa using h
            have O2 : Hid (OwnL W B (.slice (some ⟨g, 0, none⟩) n c) (A ++ (((T1' ++ [t]) ++ x :: T2) ++ D') ++ Z)) := by
              have h := OW.out
              show OwnL _ _ _ _
              simpa using h
            have L2 : Hid (a + ((T1' ++ [t]) ++ x :: T2).length = i + 1) := by
              show _ = _
              have h1 := LT.out
              rw [← EJ.out] at h1
              simp only [List.length_append, List.length_cons, List.length_nil] at *
              omega
            clear hlt2 X0 X1 X2 X3 Y0 Y1 Y2 Y3 hW
            go_wp2
            go_roundw
            case rel => exact ⟨i + 1, _, D', by go_num, by omega, by omega, O2.out, L2.out, R2.out, S2.out, GW.out⟩
            case measure => simp [intOf]; omega
        · obtain rfl : j = a := by omega
          have hT1 : T1 = [] := List.eq_nil_of_length_eq_zero (by have := LJ.out; omega)
          subst hT1
          have hEJ : T2 = T := by have := EJ.out; simpa using this
          have FJ' := Lib.hid FJ.out
          have S2 : Hid (Srt (x :: T2)) := srt_ins (T1 := []) (by rw [List.nil_append, hEJ]; exact ST.out) FJ.out (fun t ht => by simp at ht)
          have R2 : Hid (Re ((x :: T2) ++ D') S) := by
            refine Re.trans ?_ RT.out
            have h := (Re.rot (U := T2) (V := [x]) (fun u hu v hv => by simp at hv; subst hv; exact FJ.out u hu)).ctx [] D'
            rw [← hEJ]
            simpa using h
          have O2 : Hid (OwnL wr.drew B (.slice (some ⟨g, 0, none⟩) n c) (A ++ ((x :: T2) ++ D') ++ Z)) := by
            have h := World.ownsRow.drew OJ.out
            show OwnL _ _ _ _
            unfold OwnL
            simpa using h
          have L2 : Hid (j + (x :: T2).length = i + 1) := by
            show _ = _
            have h1 := LT.out
            rw [← hEJ] at h1
            rw [List.length_cons]
            omega
          have G2 := Lib.hid (only_drew GJ.out)
          have kd : decide ((j : Int) < j) = false := by simp
          clear hEJ hln
          go_wp2
          go_region
          go_wp2
          go_roundw
          case rel => exact ⟨i + 1, x :: T2, D', by go_num, by omega, by omega, O2.out, L2.out, R2.out, S2.out, G2.out⟩
          case measure => simp [intOf]; omega
    · obtain rfl : i = b := by omega
      have hD : D = [] := by
        have h1 := LT.out
        have h2 := RT.out.len
        have h3 := HB.out
        rw [List.length_append] at h2
        exact List.eq_nil_of_length_eq_zero (by omega)
      subst hD
      have hE : SoP w B g n c A S Z (.returned (.tuple #[])) wr := by
        have h1 := OT.out
        have h2 := RT.out
        rw [List.append_nil] at h1 h2
        exact ⟨T, rfl, h1, GT.out, h2, ST.out⟩
      have HE := Lib.hid hE
      clear hE
      go_wp2
      go_end0
      exact HE.out
end Go.Proofs.Ytmboadgmhafedaa
