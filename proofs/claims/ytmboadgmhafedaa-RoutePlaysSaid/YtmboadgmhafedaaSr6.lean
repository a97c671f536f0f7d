/-
  slices.SortStableFunc at routes, 6: symMerge whole. Printed by gen_sym3.py.
-/
import Derived.Test.YtmboadgmhafedaaSr5
set_option linter.unusedVariables false
namespace Go.Proofs.Ytmboadgmhafedaa
open Go.RowKit

-- both halves merged, what was cut and turned is the merge of the whole
theorem sym_plain {U1 U2 V1 V2 S1 S2 : List R4} (hU : Srt (U1 ++ U2)) (hV : Srt (V1 ++ V2)) (P1 : ∀ x ∈ U1, ∀ y ∈ V2, y.y ≤ x.y) (P2 : ∀ x ∈ U2, ∀ y ∈ V1, x.y < y.y)
    (r1 : Re S1 (U1 ++ V1)) (s1 : Srt S1) (r2 : Re S2 (U2 ++ V2)) (s2 : Srt S2) : Re (S1 ++ S2) (U1 ++ U2 ++ (V1 ++ V2)) ∧ Srt (S1 ++ S2) := by
  constructor
  · have h1 : Re (S1 ++ S2) ((U1 ++ V1) ++ (U2 ++ V2)) := (r1.left S2).trans (r2.right (U1 ++ V1))
    have h2 := (Re.rot P2).ctx U1 V2
    refine h1.trans ?_
    simpa using h2
  · refine Srt.app.2 ⟨s1, s2, fun x hx y hy => ?_⟩
    have hx' := List.mem_append.1 (r1.1.mem_iff.1 hx)
    have hy' := List.mem_append.1 (r2.1.mem_iff.1 hy)
    rcases hx' with hx' | hx' <;> rcases hy' with hy' | hy'
    · exact (Srt.app.1 hU).2.2 x hx' y hy'
    · exact P1 x hx' y hy'
    · have := P2 y hy' x hx'; omega
    · exact (Srt.app.1 hV).2.2 x hx' y hy'
theorem cut_two {L : List R4} (k : Nat) (hk : k ≤ L.length) : ∃ L1 L2, L = L1 ++ L2 ∧ L1.length = k ∧ L.take k = L1 ∧ L.drop k = L2 := ⟨L.take k, L.drop k, (List.take_append_drop _ _).symm, by rw [List.length_take]; omega, rfl, rfl⟩
def SymC (N : Nat) : Prop := ∀ (w : World) (B g n c : Nat) (A U V Z : List R4), OwnL w B (.slice (some ⟨g, 0, none⟩) n c) (A ++ U ++ V ++ Z) → ∀ a m b : Nat, A.length = a → a + U.length = m → m + V.length = b → Srt U → Srt V → U ≠ [] → V ≠ [] → U.length + V.length ≤ N → n ≤ 1000 → g < w.heap.size →
    Calls Try.prog 40 #[.slice (some ⟨g, 0, none⟩) n c, .int .i64 a, .int .i64 m, .int .i64 b, cmpV] w fun e w' => SoP w B g n c A (U ++ V) Z e w'
set_option maxRecDepth 20000 in
set_option maxHeartbeats 16000000 in
theorem symGen (N : Nat) (ih : SymC N) (w : World) {B g n c : Nat} {A U V Z : List R4} (o : OwnL w B (.slice (some ⟨g, 0, none⟩) n c) (A ++ U ++ V ++ Z)) (a m b : Nat) (ha : A.length = a) (hm : a + U.length = m) (hb : m + V.length = b) (hsU : Srt U) (hsV : Srt V) (hu : 2 ≤ U.length) (hv : 2 ≤ V.length) (hN : U.length + V.length ≤ N + 1) (hn : n ≤ 1000) :
    Calls Try.prog 40 #[.slice (some ⟨g, 0, none⟩) n c, .int .i64 a, .int .i64 m, .int .i64 b, cmpV] w fun e w' => SoP w B g n c A (U ++ V) Z e w' := by
  have hl := o.len
  simp only [List.length_append] at hl
  have hg : g < w.heap.size := by obtain ⟨cur, h, _⟩ := o.base_; exact Blk.lt h
  have HO := Lib.hid o
  have HA := Lib.hid ha
  have HLU := Lib.hid hm
  have HLV := Lib.hid hb
  have HSU := Lib.hid hsU
  have HSV := Lib.hid hsV
  have HIH := Lib.hid ih
  have HNN := Lib.hid hN
  have HG := Lib.hid hg
  have HUV := Lib.hid (⟨hu, hv⟩ : 2 ≤ U.length ∧ 2 ≤ V.length)
  have hbn : b ≤ n := by omega
  have ham : a + 2 ≤ m := by omega
  have hmb : m + 2 ≤ b := by omega
  have e0 : ((m : Int) - a == 1) = false := by simp; omega
  have e1 : ((b : Int) - m == 1) = false := by simp; omega
  obtain ⟨mid, hmid⟩ : ∃ mid, (a + b) / 2 = mid := ⟨_, rfl⟩
  have e2 : ((a : Int) + b) / 2 = mid := by omega
  obtain ⟨nn, hnn⟩ : ∃ nn, mid + m = nn := ⟨_, rfl⟩
  have e3 : (mid : Int) + m = nn := by omega
  obtain ⟨s0, r0, hcase⟩ : ∃ s0 r0 : Nat, (mid < m ∧ nn - b = s0 ∧ r0 = mid ∧ b ≤ nn) ∨ (¬ mid < m ∧ s0 = a ∧ r0 = m) := by
    by_cases h : mid < m
    · exact ⟨nn - b, mid, .inl ⟨h, rfl, rfl, by omega⟩⟩
    · exact ⟨a, m, .inr ⟨h, rfl, rfl⟩⟩
  have f1 : a ≤ s0 := by omega
  have f2 : s0 ≤ r0 := by omega
  have f3 : r0 ≤ m := by omega
  have f4 : m ≤ nn - r0 := by omega
  have f5 : nn - s0 ≤ b := by omega
  have f6 : s0 = a ∨ nn - s0 = b := by omega
  have f7 : r0 = m ∨ nn - r0 = m := by omega
  have f8 : r0 ≤ nn := by omega
  have HF := Lib.hid (⟨f6, f7⟩ : (s0 = a ∨ nn - s0 = b) ∧ (r0 = m ∨ nn - r0 = m))
  have HMID := Lib.hid hmid
  have HNNE := Lib.hid hnn
  clear o ha hm hb hsU hsV hu hv hN hl ih hg hmid f6 f7
  unfold cmpV
  rcases hcase with ⟨g1, g2, rfl, g3⟩ | ⟨g1, rfl, rfl⟩
  · have g4 : (nn : Int) - b = s0 := by omega
    have g5 : (r0 : Int) < m := by omega
    clear g1 g2 g3
    go_enter Try.func40, Try.ntmps40
    go_wp2
    go_loopw [20, 21] (fun iv jv wr => ∃ i j : Nat, iv = .int .i64 i ∧ jv = .int .i64 j ∧ s0 ≤ i ∧ i ≤ j ∧ j ≤ r0 ∧ Hid (i = s0 ∨ ∃ u t, U[i - 1 - a]? = some u ∧ V[nn - i - m]? = some t ∧ t.y ≤ u.y) ∧ Hid (j = r0 ∨ ∃ u t, U[j - a]? = some u ∧ V[nn - 1 - j - m]? = some t ∧ u.y < t.y) ∧ Hid (Below w.heap.size w wr)) (fun iv jv _ => (intOf jv - intOf iv).toNat)
    case atStart => exact ⟨s0, r0, rfl, rfl, Nat.le_refl _, f2, Nat.le_refl _, .inl rfl, .inl rfl, rf w⟩
    case round =>
      obtain ⟨i, j, rfl, rfl, hmi, hij, hjb, HI, HJ, HW⟩ := hrel
      have OW := Lib.hid (OwnL.nx HO.out HW.out)
      by_cases hlt : i < j
      · obtain ⟨h, hh⟩ : ∃ h, (i + j) / 2 = h := ⟨_, rfl⟩
        have h1 : i ≤ h := by omega
        have h2 : h < j := by omega
        have h3 : ((i : Int) + j) / 2 = h := by omega
        obtain ⟨pc, hpc⟩ : ∃ pc, nn - 1 - h = pc := ⟨_, rfl⟩
        have h4 : m ≤ pc := by omega
        have h5 : pc < b := by omega
        have h6 : (nn : Int) - 1 - h = pc := by omega
        obtain ⟨u, hu⟩ : ∃ u, U[h - a]? = some u := ⟨_, List.getElem?_eq_getElem (by have := HLU.out; omega)⟩
        obtain ⟨t, ht⟩ : ∃ t, V[pc - m]? = some t := ⟨_, List.getElem?_eq_getElem (by have := HLV.out; omega)⟩
        have HU := Lib.hid hu
        have HT := Lib.hid ht
        have HPC := Lib.hid hpc
        have hy0 : (A ++ U ++ V ++ Z)[h]? = some u := by
          have := in_left (A := A) (R := V ++ Z) (a := a) HA.out hu
          rw [show a + (h - a) = h by omega] at this
          rw [← this]
          simp
        have hx0 : (A ++ U ++ V ++ Z)[pc]? = some t := by
          have := in_left (A := A ++ U) (R := Z) (a := m) (by have := HA.out; have := HLU.out; rw [List.length_append]; omega) ht
          rw [show m + (pc - m) = pc by omega] at this
          exact this
        have k0 : (0 : Int) ≤ h := by omega
        have k1 : (h : Int) < n := by omega
        have k2 : (0 : Int) ≤ pc := by omega
        have k3 : (pc : Int) < n := by omega
        have k4 : (i : Int) < j := by omega
        clear hh hu ht hpc
        obtain ⟨q, hq⟩ : ∃ q, cmp3 u.y t.y = q := ⟨_, rfl⟩
        have CM : Hid (∀ W : World, Calls Try.prog 25 #[.agg #[.int .u32 t.x, .int .i64 t.y, .int .u32 t.z, .int .i64 t.u], .agg #[.int .u32 u.x, .int .i64 u.y, .int .u32 u.z, .int .i64 u.u]] W fun e w' => e = .returned (.int .i64 q) ∧ Below W.heap.size W w') := fun W => by rw [← hq]; exact all2K t u W
        obtain ⟨_, hA, _, x0, x1, x2, x3⟩ := OW.out.cells hx0
        injection hA with hA; injection hA with hA; subst hA
        obtain ⟨_, hA, _, y0, y1, y2, y3⟩ := OW.out.cells hy0
        injection hA with hA; injection hA with hA; subst hA
        have X0 : ∀ z : Bw wr, z.w.cell? ⟨g, (pc) * 4, none⟩ = some (.int .u32 t.x) := fun z => (z.h.cell (block_lt_of_cell x0)).trans x0
        have X1 : ∀ z : Bw wr, z.w.cell? ⟨g, (pc) * 4 + 1, none⟩ = some (.int .i64 t.y) := fun z => (z.h.cell (block_lt_of_cell x1)).trans x1
        have X2 : ∀ z : Bw wr, z.w.cell? ⟨g, (pc) * 4 + 2, none⟩ = some (.int .u32 t.z) := fun z => (z.h.cell (block_lt_of_cell x2)).trans x2
        have X3 : ∀ z : Bw wr, z.w.cell? ⟨g, (pc) * 4 + 3, none⟩ = some (.int .i64 t.u) := fun z => (z.h.cell (block_lt_of_cell x3)).trans x3
        have Y0 : ∀ z : Bw wr, z.w.cell? ⟨g, (h) * 4, none⟩ = some (.int .u32 u.x) := fun z => (z.h.cell (block_lt_of_cell y0)).trans y0
        have Y1 : ∀ z : Bw wr, z.w.cell? ⟨g, (h) * 4 + 1, none⟩ = some (.int .i64 u.y) := fun z => (z.h.cell (block_lt_of_cell y1)).trans y1
        have Y2 : ∀ z : Bw wr, z.w.cell? ⟨g, (h) * 4 + 2, none⟩ = some (.int .u32 u.z) := fun z => (z.h.cell (block_lt_of_cell y2)).trans y2
        have Y3 : ∀ z : Bw wr, z.w.cell? ⟨g, (h) * 4 + 3, none⟩ = some (.int .i64 u.u) := fun z => (z.h.cell (block_lt_of_cell y3)).trans y3
        have HX := Lib.hid hx0
        have HY := Lib.hid hy0
        have HQ := Lib.hid hq
        clear hx0 hy0 x0 x1 x2 x3 y0 y1 y2 y3 hq
        go_wp2
        refine wp_region_below (by kernel_rfl) (by as_aux_lemma => exact lexB_of _ (by kernel_rfl) (by kernel_rfl)) ?_
        repeat (go_big_quiet_step (exact Calls.bw _ (CM.out _)))
        refine wpQuiet_nil ?_
        intro W hw'
        have hW : Below wr.heap.size wr W := by obtain ⟨z, hz⟩ := hw'; rw [hz]; exact z.h
        clear hw' X0 X1 X2 X3 Y0 Y1 Y2 Y3
        have HW2 := Lib.hid (nx HW.out hW)
        by_cases hlt2 : u.y < t.y
        · have hq1 : q = -1 := by rw [← HQ.out]; unfold cmp3; rw [if_pos hlt2]
          subst hq1
          have J2 : Hid (h = r0 ∨ ∃ u t, U[h - a]? = some u ∧ V[nn - 1 - h - m]? = some t ∧ u.y < t.y) := .inr ⟨u, t, HU.out, by rw [HPC.out]; exact HT.out, hlt2⟩
          clear hlt2 hW
          go_wp2
          go_roundw
          case rel => exact ⟨i, h, rfl, rfl, hmi, h1, by omega, HI.out, J2.out, HW2.out⟩
          case measure => simp [intOf]; omega
        · have hq01 : q = 0 ∨ q = 1 := by rw [← HQ.out]; unfold cmp3; rw [if_neg hlt2]; split <;> omega
          have I2 : Hid (h + 1 = s0 ∨ ∃ u t, U[h + 1 - 1 - a]? = some u ∧ V[nn - (h + 1) - m]? = some t ∧ t.y ≤ u.y) := .inr ⟨u, t, HU.out, by rw [show nn - (h + 1) = nn - 1 - h by omega, HPC.out]; exact HT.out, by omega⟩
          clear hlt2 hW
          rcases hq01 with rfl | rfl
          all_goals
            go_wp2
            go_roundw
            case rel => exact ⟨h + 1, j, by go_num, rfl, by omega, by omega, hjb, I2.out, HJ.out, HW2.out⟩
            case measure => simp [intOf]; omega
      · obtain rfl : i = j := by omega
        have k4 : ¬ (i : Int) < i := by omega
        obtain ⟨d, hd⟩ : ∃ d, nn - i = d := ⟨_, rfl⟩
        have b1 : a ≤ i := by omega
        have b2 : i ≤ m := by omega
        have b3 : m ≤ d := by omega
        have b4 : d ≤ b := by omega
        have k5 : (nn : Int) - i = d := by omega
        have c1 : d + i = r0 + m := by have := HNNE.out; omega
        obtain ⟨U1, U2, hU, lU1, tU, dU⟩ := cut_two (L := U) (i - a) (by have := HLU.out; omega)
        obtain ⟨V1, V2, hV, lV1, tV, dV⟩ := cut_two (L := V) (d - m) (by have := HLV.out; omega)
        have lU2 : U2.length = m - i := by have := HLU.out; rw [hU, List.length_append] at this; omega
        have lV2 : V2.length = b - d := by have := HLV.out; rw [hV, List.length_append] at this; omega
        have P1 : ∀ x ∈ U1, ∀ y ∈ V2, y.y ≤ x.y := fun x hx y hy => by
          rcases HI.out with h | ⟨u, t, hu, ht, hle⟩
          · rcases HF.out.1 with h7 | h7
            · have : U1 = [] := List.eq_nil_of_length_eq_zero (by omega)
              rw [this] at hx; simp at hx
            · have : V2 = [] := List.eq_nil_of_length_eq_zero (by omega)
              rw [this] at hy; simp at hy
          · by_cases h0 : i = a
            · have : U1 = [] := List.eq_nil_of_length_eq_zero (by omega)
              rw [this] at hx; simp at hx
            · have z1 := cut_hi HSU.out hu x (by rw [show i - 1 - a + 1 = i - a by omega, tU]; exact hx)
              have z2 := cut_lo HSV.out ht y (by rw [show nn - i - m = d - m by omega, dV]; exact hy)
              omega
        have P2 : ∀ x ∈ U2, ∀ y ∈ V1, x.y < y.y := fun x hx y hy => by
          rcases HJ.out with h | ⟨u, t, hu, ht, hlt⟩
          · rcases HF.out.2 with h7 | h7
            · have : U2 = [] := List.eq_nil_of_length_eq_zero (by omega)
              rw [this] at hx; simp at hx
            · have : V1 = [] := List.eq_nil_of_length_eq_zero (by omega)
              rw [this] at hy; simp at hy
          · by_cases h0 : d = m
            · have : V1 = [] := List.eq_nil_of_length_eq_zero (by omega)
              rw [this] at hy; simp at hy
            · have z1 := cut_lo HSU.out hu x (by rw [dU]; exact hx)
              have z2 := cut_hi HSV.out ht y (by rw [show nn - 1 - i - m + 1 = d - m by omega, tV]; exact hy)
              omega
        have FIN : Hid (∀ (W : World) (S1 S2 : List R4), OwnL W B (.slice (some ⟨g, 0, none⟩) n c) (A ++ S1 ++ S2 ++ Z) → w.grownBy W (some g) → Re S1 (U1 ++ V1) → Srt S1 → Re S2 (U2 ++ V2) → Srt S2 → SoP w B g n c A (U ++ V) Z (.returned (.tuple #[])) W) := fun W S1 S2 o gg r1 s1 r2 s2 => by
          obtain ⟨q1, q2⟩ := sym_plain (by rw [← hU]; exact HSU.out) (by rw [← hV]; exact HSV.out) P1 P2 r1 s1 r2 s2
          exact ⟨S1 ++ S2, rfl, by simpa using o, gg, by rw [hU, hV]; exact q1, q2⟩
        have R1 : Hid (∀ W : World, OwnL W B (.slice (some ⟨g, 0, none⟩) n c) (A ++ U1 ++ V1 ++ (U2 ++ V2 ++ Z)) → a < i → m < d → Calls Try.prog 40 #[.slice (some ⟨g, 0, none⟩) n c, .int .i64 a, .int .i64 i, .int .i64 r0, .func (Fn.func 25) #[] #[]] W fun e w' => SoP W B g n c A (U1 ++ V1) (U2 ++ V2 ++ Z) e w') := fun W o q1 q2 =>
          HIH.out W B g n c A U1 V1 _ o a i r0 HA.out (by omega) (by omega) (Srt.app.1 (by rw [← hU]; exact HSU.out)).1 (Srt.app.1 (by rw [← hV]; exact HSV.out)).1 (by intro h; rw [h] at lU1; simp at lU1; omega) (by intro h; rw [h] at lV1; simp at lV1; omega) (by have := HNN.out; have := HLU.out; have := HLV.out; omega) hn (by obtain ⟨cur, h, _⟩ := o.base_; exact Blk.lt h)
        have R2 : Hid (∀ (W : World) (S1 : List R4), S1.length + a = r0 → OwnL W B (.slice (some ⟨g, 0, none⟩) n c) ((A ++ S1) ++ U2 ++ V2 ++ Z) → i < m → d < b → Calls Try.prog 40 #[.slice (some ⟨g, 0, none⟩) n c, .int .i64 r0, .int .i64 d, .int .i64 b, .func (Fn.func 25) #[] #[]] W fun e w' => SoP W B g n c (A ++ S1) (U2 ++ V2) Z e w') := fun W S1 hl o q1 q2 =>
          HIH.out W B g n c (A ++ S1) U2 V2 _ o r0 d b (by rw [List.length_append]; have := HA.out; omega) (by omega) (by omega) (Srt.app.1 (by rw [← hU]; exact HSU.out)).2.1 (Srt.app.1 (by rw [← hV]; exact HSV.out)).2.1 (by intro h; rw [h] at lU2; simp at lU2; omega) (by intro h; rw [h] at lV2; simp at lV2; omega) (by have := HNN.out; have := HLU.out; have := HLV.out; omega) hn (by obtain ⟨cur, h, _⟩ := o.base_; exact Blk.lt h)
        have O4 : Hid (OwnL wr B (.slice (some ⟨g, 0, none⟩) n c) (A ++ U1 ++ U2 ++ V1 ++ (V2 ++ Z))) := by
          have h := OW.out
          rw [hU, hV] at h
          show OwnL _ _ _ _
          simpa using h
        have ROT : Hid (i < m → m < d → Calls Try.prog 42 #[.slice (some ⟨g, 0, none⟩) n c, .int .i64 i, .int .i64 m, .int .i64 d, .func (Fn.func 25) #[] #[]] wr fun e w' => SrP wr B g n c (A ++ U1 ++ V1 ++ (U2 ++ V2 ++ Z)) e w') := fun q1 q2 => by
          have h := rotateK wr (A := A ++ U1) (U := U2) (V := V1) (Z := V2 ++ Z) O4.out i m d (by rw [List.length_append]; have := HA.out; omega) (by omega) (by omega) (by intro h; rw [h] at lU2; simp at lU2; omega) (by intro h; rw [h] at lV1; simp at lV1; omega) hn
          unfold cmpV at h
          simpa using h
        have S1E : Hid (U1 = [] ∨ V1 = [] → Srt (U1 ++ V1)) := fun h => by
          rcases h with h | h
          · rw [h, List.nil_append]; exact (Srt.app.1 (by rw [← hV]; exact HSV.out)).1
          · rw [h, List.append_nil]; exact (Srt.app.1 (by rw [← hU]; exact HSU.out)).1
        have S2E : Hid (U2 = [] ∨ V2 = [] → Srt (U2 ++ V2)) := fun h => by
          rcases h with h | h
          · rw [h, List.nil_append]; exact (Srt.app.1 (by rw [← hV]; exact HSV.out)).2.1
          · rw [h, List.append_nil]; exact (Srt.app.1 (by rw [← hU]; exact HSU.out)).2.1
        have NU1 : Hid (i = a → U1 = []) := fun h => List.eq_nil_of_length_eq_zero (by omega)
        have NU2 : Hid (i = m → U2 = []) := fun h => List.eq_nil_of_length_eq_zero (by omega)
        have NV1 : Hid (d = m → V1 = []) := fun h => List.eq_nil_of_length_eq_zero (by omega)
        have NV2 : Hid (d = b → V2 = []) := fun h => List.eq_nil_of_length_eq_zero (by omega)
        have LU1 : Hid (U1.length + a = i) := by show _ = _; omega
        have LV1 : Hid (V1.length + m = d) := by show _ = _; omega
        have GW := Lib.hid (only_of (b := g) HW.out)
        have c2 : m < d → i < r0 := by omega
        have c3 : i < m → r0 < d := by omega
        have HC2 := Lib.hid c2
        have HC3 := Lib.hid c3
        have HC1 := Lib.hid c1
        clear hU hV lU1 lV1 lU2 lV2 tU tV dU dV P1 P2 HI HJ hd c1 c2 c3
        by_cases hsm : i < m
        · have z1 : (i : Int) < m := by omega
          have z5 : (r0 : Int) < d := by have := HC3.out hsm; omega
          by_cases hme : m < d
          · have z2 : (m : Int) < d := by omega
            have z4 : (i : Int) < r0 := by have := HC2.out hme; omega
            have RR := Lib.hid (ROT.out hsm hme)
            go_wp2_with fail
            refine RR.out.mono ?_
            rintro x1 W1 ⟨rfl, o1, g1⟩
            have O5 := Lib.hid o1
            have G5 := Lib.hid (only_trans GW.out g1)
            clear o1 g1
            by_cases hai : a < i
            · have z3 : (a : Int) < i := by omega
              have R1' := Lib.hid (R1.out W1 O5.out hai hme)
              go_wp2_with fail
              refine R1'.out.mono ?_
              rintro x2 W2 ⟨S1, rfl, o2, g2, r1, s1⟩
              have O6 : Hid (OwnL W2 B (.slice (some ⟨g, 0, none⟩) n c) ((A ++ S1) ++ U2 ++ V2 ++ Z)) := by show OwnL _ _ _ _; simpa using o2
              have G6 := Lib.hid (only_trans G5.out g2)
              have RS1 := Lib.hid r1
              have SS1 := Lib.hid s1
              have hl1 : S1.length + a = r0 := by have h1 := RS1.out.len; rw [List.length_append] at h1; have := LU1.out; have := LV1.out; have := HC1.out; omega
              have HL1 := Lib.hid hl1
              clear o2 g2 r1 s1 hl1
              by_cases hdb : d < b
              · have z6 : (d : Int) < b := by omega
                have R2' := Lib.hid (R2.out W2 S1 HL1.out O6.out hsm hdb)
                go_wp2_with fail
                refine R2'.out.mono ?_
                rintro x3 W3 ⟨S2, rfl, o3, g3, r2, s2⟩
                have HEE := Lib.hid (FIN.out W3 S1 S2 o3 (only_trans G6.out g3) RS1.out SS1.out r2 s2)
                clear o3 g3 r2 s2
                go_wp2
                go_end0
                exact HEE.out
              · have z6 : ¬ (d : Int) < b := by omega
                have HEE := Lib.hid (FIN.out W2 S1 (U2 ++ V2) (by have h := O6.out; simpa using h) G6.out RS1.out SS1.out (Re.refl _) (S2E.out (.inr (NV2.out (by omega)))))
                go_wp2
                go_end0
                exact HEE.out
            · have z3 : ¬ (a : Int) < i := by omega
              have O6 : Hid (OwnL W1 B (.slice (some ⟨g, 0, none⟩) n c) ((A ++ (U1 ++ V1)) ++ U2 ++ V2 ++ Z)) := by have h := O5.out; show OwnL _ _ _ _; simpa using h
              have SS1 := Lib.hid (S1E.out (.inl (NU1.out (by omega))))
              have HL1 : Hid ((U1 ++ V1).length + a = r0) := by show _ = _; rw [List.length_append]; have := LU1.out; have := LV1.out; have := HC1.out; omega
              by_cases hdb : d < b
              · have z6 : (d : Int) < b := by omega
                have R2' := Lib.hid (R2.out W1 (U1 ++ V1) HL1.out O6.out hsm hdb)
                go_wp2_with fail
                refine R2'.out.mono ?_
                rintro x3 W3 ⟨S2, rfl, o3, g3, r2, s2⟩
                have HEE := Lib.hid (FIN.out W3 (U1 ++ V1) S2 o3 (only_trans G5.out g3) (Re.refl _) SS1.out r2 s2)
                clear o3 g3 r2 s2
                go_wp2
                go_end0
                exact HEE.out
              · have z6 : ¬ (d : Int) < b := by omega
                have HEE := Lib.hid (FIN.out W1 (U1 ++ V1) (U2 ++ V2) (by have h := O6.out; simpa using h) G5.out (Re.refl _) SS1.out (Re.refl _) (S2E.out (.inr (NV2.out (by omega)))))
                go_wp2
                go_end0
                exact HEE.out
          · have z2 : ¬ (m : Int) < d := by omega
            have z4 : ¬ (i : Int) < r0 := by have := HC1.out; omega
            have hdb : d < b := by omega
            have z6 : (d : Int) < b := by omega
            have hV1 := NV1.out (by omega)
            have O6 : Hid (OwnL wr B (.slice (some ⟨g, 0, none⟩) n c) ((A ++ (U1 ++ V1)) ++ U2 ++ V2 ++ Z)) := by have h := O4.out; show OwnL _ _ _ _; rw [hV1] at h ⊢; simpa using h
            have SS1 := Lib.hid (S1E.out (.inr hV1))
            have HL1 : Hid ((U1 ++ V1).length + a = r0) := by show _ = _; rw [List.length_append]; have := LU1.out; have := LV1.out; have := HC1.out; omega
            have R2' := Lib.hid (R2.out wr (U1 ++ V1) HL1.out O6.out hsm hdb)
            clear hV1
            by_cases hai : (a : Int) < i
            all_goals
              go_wp2_with fail
              refine R2'.out.mono ?_
              rintro x3 W3 ⟨S2, rfl, o3, g3, r2, s2⟩
              have HEE := Lib.hid (FIN.out W3 (U1 ++ V1) S2 o3 (only_trans GW.out g3) (Re.refl _) SS1.out r2 s2)
              clear o3 g3 r2 s2
              go_wp2
              go_end0
              exact HEE.out
        · exact absurd (show i < m by omega) hsm
  · have g5 : ¬ (mid : Int) < r0 := by omega
    clear g1
    go_enter Try.func40, Try.ntmps40
    go_wp2
    go_loopw [20, 21] (fun iv jv wr => ∃ i j : Nat, iv = .int .i64 i ∧ jv = .int .i64 j ∧ s0 ≤ i ∧ i ≤ j ∧ j ≤ r0 ∧ Hid (i = s0 ∨ ∃ u t, U[i - 1 - s0]? = some u ∧ V[nn - i - r0]? = some t ∧ t.y ≤ u.y) ∧ Hid (j = r0 ∨ ∃ u t, U[j - s0]? = some u ∧ V[nn - 1 - j - r0]? = some t ∧ u.y < t.y) ∧ Hid (Below w.heap.size w wr)) (fun iv jv _ => (intOf jv - intOf iv).toNat)
    case atStart => exact ⟨s0, r0, rfl, rfl, Nat.le_refl _, f2, Nat.le_refl _, .inl rfl, .inl rfl, rf w⟩
    case round =>
      obtain ⟨i, j, rfl, rfl, hmi, hij, hjb, HI, HJ, HW⟩ := hrel
      have OW := Lib.hid (OwnL.nx HO.out HW.out)
      by_cases hlt : i < j
      · obtain ⟨h, hh⟩ : ∃ h, (i + j) / 2 = h := ⟨_, rfl⟩
        have h1 : i ≤ h := by omega
        have h2 : h < j := by omega
        have h3 : ((i : Int) + j) / 2 = h := by omega
        obtain ⟨pc, hpc⟩ : ∃ pc, nn - 1 - h = pc := ⟨_, rfl⟩
        have h4 : r0 ≤ pc := by omega
        have h5 : pc < b := by omega
        have h6 : (nn : Int) - 1 - h = pc := by omega
        obtain ⟨u, hu⟩ : ∃ u, U[h - s0]? = some u := ⟨_, List.getElem?_eq_getElem (by have := HLU.out; omega)⟩
        obtain ⟨t, ht⟩ : ∃ t, V[pc - r0]? = some t := ⟨_, List.getElem?_eq_getElem (by have := HLV.out; omega)⟩
        have HU := Lib.hid hu
        have HT := Lib.hid ht
        have HPC := Lib.hid hpc
        have hy0 : (A ++ U ++ V ++ Z)[h]? = some u := by
          have := in_left (A := A) (R := V ++ Z) (a := s0) HA.out hu
          rw [show s0 + (h - s0) = h by omega] at this
          rw [← this]
          simp
        have hx0 : (A ++ U ++ V ++ Z)[pc]? = some t := by
          have := in_left (A := A ++ U) (R := Z) (a := r0) (by have := HA.out; have := HLU.out; rw [List.length_append]; omega) ht
          rw [show r0 + (pc - r0) = pc by omega] at this
          exact this
        have k0 : (0 : Int) ≤ h := by omega
        have k1 : (h : Int) < n := by omega
        have k2 : (0 : Int) ≤ pc := by omega
        have k3 : (pc : Int) < n := by omega
        have k4 : (i : Int) < j := by omega
        clear hh hu ht hpc
        obtain ⟨q, hq⟩ : ∃ q, cmp3 u.y t.y = q := ⟨_, rfl⟩
        have CM : Hid (∀ W : World, Calls Try.prog 25 #[.agg #[.int .u32 t.x, .int .i64 t.y, .int .u32 t.z, .int .i64 t.u], .agg #[.int .u32 u.x, .int .i64 u.y, .int .u32 u.z, .int .i64 u.u]] W fun e w' => e = .returned (.int .i64 q) ∧ Below W.heap.size W w') := fun W => by rw [← hq]; exact all2K t u W
        obtain ⟨_, hA, _, x0, x1, x2, x3⟩ := OW.out.cells hx0
        injection hA with hA; injection hA with hA; subst hA
        obtain ⟨_, hA, _, y0, y1, y2, y3⟩ := OW.out.cells hy0
        injection hA with hA; injection hA with hA; subst hA
        have X0 : ∀ z : Bw wr, z.w.cell? ⟨g, (pc) * 4, none⟩ = some (.int .u32 t.x) := fun z => (z.h.cell (block_lt_of_cell x0)).trans x0
        have X1 : ∀ z : Bw wr, z.w.cell? ⟨g, (pc) * 4 + 1, none⟩ = some (.int .i64 t.y) := fun z => (z.h.cell (block_lt_of_cell x1)).trans x1
        have X2 : ∀ z : Bw wr, z.w.cell? ⟨g, (pc) * 4 + 2, none⟩ = some (.int .u32 t.z) := fun z => (z.h.cell (block_lt_of_cell x2)).trans x2
        have X3 : ∀ z : Bw wr, z.w.cell? ⟨g, (pc) * 4 + 3, none⟩ = some (.int .i64 t.u) := fun z => (z.h.cell (block_lt_of_cell x3)).trans x3
        have Y0 : ∀ z : Bw wr, z.w.cell? ⟨g, (h) * 4, none⟩ = some (.int .u32 u.x) := fun z => (z.h.cell (block_lt_of_cell y0)).trans y0
        have Y1 : ∀ z : Bw wr, z.w.cell? ⟨g, (h) * 4 + 1, none⟩ = some (.int .i64 u.y) := fun z => (z.h.cell (block_lt_of_cell y1)).trans y1
        have Y2 : ∀ z : Bw wr, z.w.cell? ⟨g, (h) * 4 + 2, none⟩ = some (.int .u32 u.z) := fun z => (z.h.cell (block_lt_of_cell y2)).trans y2
        have Y3 : ∀ z : Bw wr, z.w.cell? ⟨g, (h) * 4 + 3, none⟩ = some (.int .i64 u.u) := fun z => (z.h.cell (block_lt_of_cell y3)).trans y3
        have HX := Lib.hid hx0
        have HY := Lib.hid hy0
        have HQ := Lib.hid hq
        clear hx0 hy0 x0 x1 x2 x3 y0 y1 y2 y3 hq
        go_wp2
        refine wp_region_below (by kernel_rfl) (by as_aux_lemma => exact lexB_of _ (by kernel_rfl) (by kernel_rfl)) ?_
        repeat (go_big_quiet_step (exact Calls.bw _ (CM.out _)))
        refine wpQuiet_nil ?_
        intro W hw'
        have hW : Below wr.heap.size wr W := by obtain ⟨z, hz⟩ := hw'; rw [hz]; exact z.h
        clear hw' X0 X1 X2 X3 Y0 Y1 Y2 Y3
        have HW2 := Lib.hid (nx HW.out hW)
        by_cases hlt2 : u.y < t.y
        · have hq1 : q = -1 := by rw [← HQ.out]; unfold cmp3; rw [if_pos hlt2]
          subst hq1
          have J2 : Hid (h = r0 ∨ ∃ u t, U[h - s0]? = some u ∧ V[nn - 1 - h - r0]? = some t ∧ u.y < t.y) := .inr ⟨u, t, HU.out, by rw [HPC.out]; exact HT.out, hlt2⟩
          clear hlt2 hW
          go_wp2
          go_roundw
          case rel => exact ⟨i, h, rfl, rfl, hmi, h1, by omega, HI.out, J2.out, HW2.out⟩
          case measure => simp [intOf]; omega
        · have hq01 : q = 0 ∨ q = 1 := by rw [← HQ.out]; unfold cmp3; rw [if_neg hlt2]; split <;> omega
          have I2 : Hid (h + 1 = s0 ∨ ∃ u t, U[h + 1 - 1 - s0]? = some u ∧ V[nn - (h + 1) - r0]? = some t ∧ t.y ≤ u.y) := .inr ⟨u, t, HU.out, by rw [show nn - (h + 1) = nn - 1 - h by omega, HPC.out]; exact HT.out, by omega⟩
          clear hlt2 hW
          rcases hq01 with rfl | rfl
          all_goals
            go_wp2
            go_roundw
            case rel => exact ⟨h + 1, j, by go_num, rfl, by omega, by omega, hjb, I2.out, HJ.out, HW2.out⟩
            case measure => simp [intOf]; omega
      · obtain rfl : i = j := by omega
        have k4 : ¬ (i : Int) < i := by omega
        obtain ⟨d, hd⟩ : ∃ d, nn - i = d := ⟨_, rfl⟩
        have b1 : s0 ≤ i := by omega
        have b2 : i ≤ r0 := by omega
        have b3 : r0 ≤ d := by omega
        have b4 : d ≤ b := by omega
        have k5 : (nn : Int) - i = d := by omega
        have c1 : d + i = mid + r0 := by have := HNNE.out; omega
        obtain ⟨U1, U2, hU, lU1, tU, dU⟩ := cut_two (L := U) (i - s0) (by have := HLU.out; omega)
        obtain ⟨V1, V2, hV, lV1, tV, dV⟩ := cut_two (L := V) (d - r0) (by have := HLV.out; omega)
        have lU2 : U2.length = r0 - i := by have := HLU.out; rw [hU, List.length_append] at this; omega
        have lV2 : V2.length = b - d := by have := HLV.out; rw [hV, List.length_append] at this; omega
        have P1 : ∀ x ∈ U1, ∀ y ∈ V2, y.y ≤ x.y := fun x hx y hy => by
          rcases HI.out with h | ⟨u, t, hu, ht, hle⟩
          · rcases HF.out.1 with h7 | h7
            · have : U1 = [] := List.eq_nil_of_length_eq_zero (by omega)
              rw [this] at hx; simp at hx
            · have : V2 = [] := List.eq_nil_of_length_eq_zero (by omega)
              rw [this] at hy; simp at hy
          · by_cases h0 : i = s0
            · have : U1 = [] := List.eq_nil_of_length_eq_zero (by omega)
              rw [this] at hx; simp at hx
            · have z1 := cut_hi HSU.out hu x (by rw [show i - 1 - s0 + 1 = i - s0 by omega, tU]; exact hx)
              have z2 := cut_lo HSV.out ht y (by rw [show nn - i - r0 = d - r0 by omega, dV]; exact hy)
              omega
        have P2 : ∀ x ∈ U2, ∀ y ∈ V1, x.y < y.y := fun x hx y hy => by
          rcases HJ.out with h | ⟨u, t, hu, ht, hlt⟩
          · rcases HF.out.2 with h7 | h7
            · have : U2 = [] := List.eq_nil_of_length_eq_zero (by omega)
              rw [this] at hx; simp at hx
            · have : V1 = [] := List.eq_nil_of_length_eq_zero (by omega)
              rw [this] at hy; simp at hy
          · by_cases h0 : d = r0
            · have : V1 = [] := List.eq_nil_of_length_eq_zero (by omega)
              rw [this] at hy; simp at hy
            · have z1 := cut_lo HSU.out hu x (by rw [dU]; exact hx)
              have z2 := cut_hi HSV.out ht y (by rw [show nn - 1 - i - r0 + 1 = d - r0 by omega, tV]; exact hy)
              omega
        have FIN : Hid (∀ (W : World) (S1 S2 : List R4), OwnL W B (.slice (some ⟨g, 0, none⟩) n c) (A ++ S1 ++ S2 ++ Z) → w.grownBy W (some g) → Re S1 (U1 ++ V1) → Srt S1 → Re S2 (U2 ++ V2) → Srt S2 → SoP w B g n c A (U ++ V) Z (.returned (.tuple #[])) W) := fun W S1 S2 o gg r1 s1 r2 s2 => by
          obtain ⟨q1, q2⟩ := sym_plain (by rw [← hU]; exact HSU.out) (by rw [← hV]; exact HSV.out) P1 P2 r1 s1 r2 s2
          exact ⟨S1 ++ S2, rfl, by simpa using o, gg, by rw [hU, hV]; exact q1, q2⟩
        have R1 : Hid (∀ W : World, OwnL W B (.slice (some ⟨g, 0, none⟩) n c) (A ++ U1 ++ V1 ++ (U2 ++ V2 ++ Z)) → s0 < i → r0 < d → Calls Try.prog 40 #[.slice (some ⟨g, 0, none⟩) n c, .int .i64 s0, .int .i64 i, .int .i64 mid, .func (Fn.func 25) #[] #[]] W fun e w' => SoP W B g n c A (U1 ++ V1) (U2 ++ V2 ++ Z) e w') := fun W o q1 q2 =>
          HIH.out W B g n c A U1 V1 _ o s0 i mid HA.out (by omega) (by omega) (Srt.app.1 (by rw [← hU]; exact HSU.out)).1 (Srt.app.1 (by rw [← hV]; exact HSV.out)).1 (by intro h; rw [h] at lU1; simp at lU1; omega) (by intro h; rw [h] at lV1; simp at lV1; omega) (by have := HNN.out; have := HLU.out; have := HLV.out; omega) hn (by obtain ⟨cur, h, _⟩ := o.base_; exact Blk.lt h)
        have R2 : Hid (∀ (W : World) (S1 : List R4), S1.length + s0 = mid → OwnL W B (.slice (some ⟨g, 0, none⟩) n c) ((A ++ S1) ++ U2 ++ V2 ++ Z) → i < r0 → d < b → Calls Try.prog 40 #[.slice (some ⟨g, 0, none⟩) n c, .int .i64 mid, .int .i64 d, .int .i64 b, .func (Fn.func 25) #[] #[]] W fun e w' => SoP W B g n c (A ++ S1) (U2 ++ V2) Z e w') := fun W S1 hl o q1 q2 =>
          HIH.out W B g n c (A ++ S1) U2 V2 _ o mid d b (by rw [List.length_append]; have := HA.out; omega) (by omega) (by omega) (Srt.app.1 (by rw [← hU]; exact HSU.out)).2.1 (Srt.app.1 (by rw [← hV]; exact HSV.out)).2.1 (by intro h; rw [h] at lU2; simp at lU2; omega) (by intro h; rw [h] at lV2; simp at lV2; omega) (by have := HNN.out; have := HLU.out; have := HLV.out; omega) hn (by obtain ⟨cur, h, _⟩ := o.base_; exact Blk.lt h)
        have O4 : Hid (OwnL wr B (.slice (some ⟨g, 0, none⟩) n c) (A ++ U1 ++ U2 ++ V1 ++ (V2 ++ Z))) := by
          have h := OW.out
          rw [hU, hV] at h
          show OwnL _ _ _ _
          simpa using h
        have ROT : Hid (i < r0 → r0 < d → Calls Try.prog 42 #[.slice (some ⟨g, 0, none⟩) n c, .int .i64 i, .int .i64 r0, .int .i64 d, .func (Fn.func 25) #[] #[]] wr fun e w' => SrP wr B g n c (A ++ U1 ++ V1 ++ (U2 ++ V2 ++ Z)) e w') := fun q1 q2 => by
          have h := rotateK wr (A := A ++ U1) (U := U2) (V := V1) (Z := V2 ++ Z) O4.out i r0 d (by rw [List.length_append]; have := HA.out; omega) (by omega) (by omega) (by intro h; rw [h] at lU2; simp at lU2; omega) (by intro h; rw [h] at lV1; simp at lV1; omega) hn
          unfold cmpV at h
          simpa using h
        have S1E : Hid (U1 = [] ∨ V1 = [] → Srt (U1 ++ V1)) := fun h => by
          rcases h with h | h
          · rw [h, List.nil_append]; exact (Srt.app.1 (by rw [← hV]; exact HSV.out)).1
          · rw [h, List.append_nil]; exact (Srt.app.1 (by rw [← hU]; exact HSU.out)).1
        have S2E : Hid (U2 = [] ∨ V2 = [] → Srt (U2 ++ V2)) := fun h => by
          rcases h with h | h
          · rw [h, List.nil_append]; exact (Srt.app.1 (by rw [← hV]; exact HSV.out)).2.1
          · rw [h, List.append_nil]; exact (Srt.app.1 (by rw [← hU]; exact HSU.out)).2.1
        have NU1 : Hid (i = s0 → U1 = []) := fun h => List.eq_nil_of_length_eq_zero (by omega)
        have NU2 : Hid (i = r0 → U2 = []) := fun h => List.eq_nil_of_length_eq_zero (by omega)
        have NV1 : Hid (d = r0 → V1 = []) := fun h => List.eq_nil_of_length_eq_zero (by omega)
        have NV2 : Hid (d = b → V2 = []) := fun h => List.eq_nil_of_length_eq_zero (by omega)
        have LU1 : Hid (U1.length + s0 = i) := by show _ = _; omega
        have LV1 : Hid (V1.length + r0 = d) := by show _ = _; omega
        have GW := Lib.hid (only_of (b := g) HW.out)
        have c2 : r0 < d → i < mid := by omega
        have c3 : i < r0 → mid < d := by omega
        have HC2 := Lib.hid c2
        have HC3 := Lib.hid c3
        have HC1 := Lib.hid c1
        clear hU hV lU1 lV1 lU2 lV2 tU tV dU dV P1 P2 HI HJ hd c1 c2 c3
        by_cases hsm : i < r0
        · have z1 : (i : Int) < r0 := by omega
          have z5 : (mid : Int) < d := by have := HC3.out hsm; omega
          by_cases hme : r0 < d
          · have z2 : (r0 : Int) < d := by omega
            have z4 : (i : Int) < mid := by have := HC2.out hme; omega
            have RR := Lib.hid (ROT.out hsm hme)
            go_wp2_with fail
            refine RR.out.mono ?_
            rintro x1 W1 ⟨rfl, o1, g1⟩
            have O5 := Lib.hid o1
            have G5 := Lib.hid (only_trans GW.out g1)
            clear o1 g1
            by_cases hai : s0 < i
            · have z3 : (s0 : Int) < i := by omega
              have R1' := Lib.hid (R1.out W1 O5.out hai hme)
              go_wp2_with fail
              refine R1'.out.mono ?_
              rintro x2 W2 ⟨S1, rfl, o2, g2, r1, s1⟩
              have O6 : Hid (OwnL W2 B (.slice (some ⟨g, 0, none⟩) n c) ((A ++ S1) ++ U2 ++ V2 ++ Z)) := by show OwnL _ _ _ _; simpa using o2
              have G6 := Lib.hid (only_trans G5.out g2)
              have RS1 := Lib.hid r1
              have SS1 := Lib.hid s1
              have hl1 : S1.length + s0 = mid := by have h1 := RS1.out.len; rw [List.length_append] at h1; have := LU1.out; have := LV1.out; have := HC1.out; omega
              have HL1 := Lib.hid hl1
              clear o2 g2 r1 s1 hl1
              by_cases hdb : d < b
              · have z6 : (d : Int) < b := by omega
                have R2' := Lib.hid (R2.out W2 S1 HL1.out O6.out hsm hdb)
                go_wp2_with fail
                refine R2'.out.mono ?_
                rintro x3 W3 ⟨S2, rfl, o3, g3, r2, s2⟩
                have HEE := Lib.hid (FIN.out W3 S1 S2 o3 (only_trans G6.out g3) RS1.out SS1.out r2 s2)
                clear o3 g3 r2 s2
                go_wp2
                go_end0
                exact HEE.out
              · have z6 : ¬ (d : Int) < b := by omega
                have HEE := Lib.hid (FIN.out W2 S1 (U2 ++ V2) (by have h := O6.out; simpa using h) G6.out RS1.out SS1.out (Re.refl _) (S2E.out (.inr (NV2.out (by omega)))))
                go_wp2
                go_end0
                exact HEE.out
            · have z3 : ¬ (s0 : Int) < i := by omega
              have O6 : Hid (OwnL W1 B (.slice (some ⟨g, 0, none⟩) n c) ((A ++ (U1 ++ V1)) ++ U2 ++ V2 ++ Z)) := by have h := O5.out; show OwnL _ _ _ _; simpa using h
              have SS1 := Lib.hid (S1E.out (.inl (NU1.out (by omega))))
              have HL1 : Hid ((U1 ++ V1).length + s0 = mid) := by show _ = _; rw [List.length_append]; have := LU1.out; have := LV1.out; have := HC1.out; omega
              by_cases hdb : d < b
              · have z6 : (d : Int) < b := by omega
                have R2' := Lib.hid (R2.out W1 (U1 ++ V1) HL1.out O6.out hsm hdb)
                go_wp2_with fail
                refine R2'.out.mono ?_
                rintro x3 W3 ⟨S2, rfl, o3, g3, r2, s2⟩
                have HEE := Lib.hid (FIN.out W3 (U1 ++ V1) S2 o3 (only_trans G5.out g3) (Re.refl _) SS1.out r2 s2)
                clear o3 g3 r2 s2
                go_wp2
                go_end0
                exact HEE.out
              · have z6 : ¬ (d : Int) < b := by omega
                have HEE := Lib.hid (FIN.out W1 (U1 ++ V1) (U2 ++ V2) (by have h := O6.out; simpa using h) G5.out (Re.refl _) SS1.out (Re.refl _) (S2E.out (.inr (NV2.out (by omega)))))
                go_wp2
                go_end0
                exact HEE.out
          · have z2 : ¬ (r0 : Int) < d := by omega
            have z4 : ¬ (i : Int) < mid := by have := HC1.out; omega
            have hdb : d < b := by omega
            have z6 : (d : Int) < b := by omega
            have hV1 := NV1.out (by omega)
            have O6 : Hid (OwnL wr B (.slice (some ⟨g, 0, none⟩) n c) ((A ++ (U1 ++ V1)) ++ U2 ++ V2 ++ Z)) := by have h := O4.out; show OwnL _ _ _ _; rw [hV1] at h ⊢; simpa using h
            have SS1 := Lib.hid (S1E.out (.inr hV1))
            have HL1 : Hid ((U1 ++ V1).length + s0 = mid) := by show _ = _; rw [List.length_append]; have := LU1.out; have := LV1.out; have := HC1.out; omega
            have R2' := Lib.hid (R2.out wr (U1 ++ V1) HL1.out O6.out hsm hdb)
            clear hV1
            by_cases hai : (s0 : Int) < i
            all_goals
              go_wp2_with fail
              refine R2'.out.mono ?_
              rintro x3 W3 ⟨S2, rfl, o3, g3, r2, s2⟩
              have HEE := Lib.hid (FIN.out W3 (U1 ++ V1) S2 o3 (only_trans GW.out g3) (Re.refl _) SS1.out r2 s2)
              clear o3 g3 r2 s2
              go_wp2
              go_end0
              exact HEE.out
        · have z1 : ¬ (i : Int) < r0 := by omega
          have z5 : ¬ (mid : Int) < d := by have := HC1.out; omega
          have hU2 := NU2.out (by omega)
          have O5 : Hid (OwnL wr B (.slice (some ⟨g, 0, none⟩) n c) (A ++ U1 ++ V1 ++ (U2 ++ V2 ++ Z))) := by have h := O4.out; show OwnL _ _ _ _; rw [hU2] at h ⊢; simpa using h
          have SS2 := Lib.hid (S2E.out (.inl hU2))
          have hai : s0 < i := by omega
          have z3 : (s0 : Int) < i := by omega
          clear hU2
          by_cases hme : r0 < d
          · have z4 : (i : Int) < mid := by have := HC2.out hme; omega
            have R1' := Lib.hid (R1.out wr O5.out hai hme)
            go_wp2_with fail
            refine R1'.out.mono ?_
            rintro x2 W2 ⟨S1, rfl, o2, g2, r1, s1⟩
            have HEE := Lib.hid (FIN.out W2 S1 (U2 ++ V2) (by simpa using o2) (only_trans GW.out g2) r1 s1 (Re.refl _) SS2.out)
            clear o2 g2 r1 s1
            go_wp2
            go_end0
            exact HEE.out
          · have z4 : ¬ (i : Int) < mid := by have := HC1.out; omega
            have HEE := Lib.hid (FIN.out wr (U1 ++ V1) (U2 ++ V2) (by have h := O5.out; simpa using h) GW.out (Re.refl _) (S1E.out (.inr (NV1.out (by omega)))) (Re.refl _) SS2.out)
            go_wp2
            go_end0
            exact HEE.out
theorem symMergeK : ∀ N : Nat, SymC N
  | 0 => fun w B g n c A U V Z o a m b ha hm hb hsU hsV hU hV hN hn hg => by
    have := List.length_pos_iff.2 hU
    omega
  | N + 1 => fun w B g n c A U V Z o a m b ha hm hb hsU hsV hU hV hN hn hg => by
    have h1 := List.length_pos_iff.2 hU
    have h2 := List.length_pos_iff.2 hV
    by_cases hu : U.length = 1
    · obtain ⟨u, rfl⟩ := List.length_eq_one_iff.1 hu
      exact symLeft w o a m b ha (by simpa using hm) hb hsV hn
    · by_cases hv : V.length = 1
      · obtain ⟨v, rfl⟩ := List.length_eq_one_iff.1 hv
        exact symRight w o a m b ha hm (by simpa using hb) hsU (by omega) hn
      · exact symGen N (symMergeK N) w o a m b ha hm hb hsU hsV (by omega) (by omega) hN hn
end Go.Proofs.Ytmboadgmhafedaa
