/-
  slices.SortStableFunc at routes, 3: rotate.
-/
import Derived.Test.YtmboadgmhafedaaSrP
set_option linter.unusedVariables false
namespace Go.Proofs.Ytmboadgmhafedaa
open Go.RowKit

set_option maxRecDepth 10000 in
set_option maxHeartbeats 3200000 in
theorem rotateK (w : World) {B g n c : Nat} {A U V Z : List R4} (o : OwnL w B (.slice (some ⟨g, 0, none⟩) n c) (A ++ U ++ V ++ Z)) (a m b : Nat) (ha : A.length = a) (hm : a + U.length = m) (hb : m + V.length = b) (hU : U ≠ []) (hV : V ≠ []) (hn : n ≤ 1000) :
    Calls Try.prog 42 #[.slice (some ⟨g, 0, none⟩) n c, .int .i64 a, .int .i64 m, .int .i64 b, cmpV] w fun e w' => SrP w B g n c (A ++ V ++ U ++ Z) e w' := by
  have hl := o.len
  simp only [List.length_append] at hl
  have hu : 0 < U.length := List.length_pos_iff.2 hU
  have hv : 0 < V.length := List.length_pos_iff.2 hV
  have HO := Lib.hid o
  obtain ⟨i0, hi0⟩ : ∃ i0, U.length = i0 := ⟨_, rfl⟩
  obtain ⟨j0, hj0⟩ : ∃ j0, V.length = j0 := ⟨_, rfl⟩
  rw [hi0] at hm hl hu
  rw [hj0] at hb hl hv
  have HI := Lib.hid hi0
  have HJ := Lib.hid hj0
  have HA := Lib.hid ha
  have e1 : (m : Int) - a = i0 := by omega
  have e2 : (b : Int) - m = j0 := by omega
  have hm2 : m + j0 ≤ n := by omega
  obtain ⟨T, hT⟩ : ∃ T, A ++ V ++ U ++ Z = T := ⟨_, rfl⟩
  have HT := Lib.hid hT
  rw [hT]
  have HM : Hid (A.length + U.length = m) := by show _ = _; omega
  clear o hT ha hi0 hj0 hU hV
  have SW := Lib.hid (fun (W : World) (L : List R4) (o : OwnL W B (.slice (some ⟨g, 0, none⟩) n c) L) (a b k : Nat) (hab : a + k ≤ b) (hb : b + k ≤ n) => swapRangeK W o a b k hab hb hn)
  unfold cmpV at *
  go_enter Try.func42, Try.ntmps42
  go_wp2
  clear e1 e2
  go_loopw [10, 11] (fun iv jv wr => ∃ (i j p : Nat) (P X Y Q : List R4), iv = .int .i64 i ∧ jv = .int .i64 j ∧ 0 < i ∧ 0 < j ∧ p + i = m ∧ m + j ≤ n ∧ Hid (P.length = p) ∧ Hid (X.length = i) ∧ Hid (Y.length = j) ∧ Hid (OwnL wr B (.slice (some ⟨g, 0, none⟩) n c) (P ++ X ++ Y ++ Q)) ∧ Hid (P ++ Y ++ X ++ Q = T) ∧ Hid (w.grownBy wr (some g))) (fun iv jv _ => (intOf iv + intOf jv).toNat)
  case atStart => exact ⟨i0, j0, a, A, U, V, Z, rfl, rfl, hu, hv, hm, hm2, HA.out, HI.out, HJ.out, HO.out, HT.out, World.grownBy.refl _ _⟩
  case round =>
    obtain ⟨i, j, p, P, X, Y, Q, rfl, rfl, hi, hj, hpi, hmj, LP, LX, LY, OW, ET, GW⟩ := hrel
    have e3 : (m : Int) - i = p := by omega
    by_cases hij : i = j
    · subst hij
      have C := swapRangeK wr (L := P ++ X ++ [] ++ Y ++ Q) (by rw [List.append_nil]; exact OW.out) p m i (by omega) (by omega) hn
      have hE : swR (P ++ X ++ [] ++ Y ++ Q) p m i = T := by
        have h := swR_eq X Y P [] Q (by rw [LX.out, LY.out])
        rw [LP.out, LX.out, List.length_nil, Nat.add_zero, hpi, List.append_nil, List.append_nil] at h
        rw [List.append_nil, h, ← ET.out]
      rw [hE] at C
      have CC := Lib.hid C
      have hne : ((i : Int) != i) = false := by simp
      clear C hE
      unfold cmpV at CC
      go_wp2_with fail
      refine CC.out.mono ?_
      rintro e w1 ⟨rfl, o1, g1⟩
      have HE : Hid (SrP w B g n c T (.returned (.tuple #[])) w1) := ⟨rfl, o1, only_trans GW.out g1⟩
      clear o1 g1
      go_wp2
      go_end0
      exact HE.out
    · by_cases hlt : j < i
      · obtain ⟨X1, X2, rfl, hX1⟩ : ∃ X1 X2, X = X1 ++ X2 ∧ X1.length = j := ⟨X.take j, X.drop j, (List.take_append_drop _ _).symm, by rw [List.length_take, LX.out]; omega⟩
        have hX2 : X2.length = i - j := by have := LX.out; rw [List.length_append] at this; omega
        have C := swapRangeK wr (L := P ++ X1 ++ X2 ++ Y ++ Q) (by have := OW.out; simpa using this) p m j (by omega) (by omega) hn
        have hE : swR (P ++ X1 ++ X2 ++ Y ++ Q) p m j = P ++ Y ++ X2 ++ X1 ++ Q := by
          have h := swR_eq X1 Y P X2 Q (by rw [hX1, LY.out])
          rw [LP.out, hX1, hX2, show p + j + (i - j) = m by omega] at h
          exact h
        rw [hE] at C
        have CC := Lib.hid C
        have hne : ((i : Int) != j) = true := by simp; omega
        have hgt : (j : Int) < i := by omega
        have e4 : (i : Int) - j = ((i - j : Nat) : Int) := by omega
        have L2 : Hid ((P ++ Y).length = p + j) := by show _ = _; rw [List.length_append, LP.out, LY.out]
        have LX1 := Lib.hid hX1
        have LX2 := Lib.hid hX2
        have ET2 : Hid ((P ++ Y) ++ X1 ++ X2 ++ Q = T) := by show _ = _; rw [← ET.out]; simp
        clear C hE hX1 hX2
        obtain ⟨d, hd⟩ : ∃ d, i - j = d := ⟨_, rfl⟩
        rw [hd] at e4 LX2
        unfold cmpV at CC
        go_wp2_with fail
        refine CC.out.mono ?_
        rintro e w1 ⟨rfl, o1, g1⟩
        have O1 := Lib.hid o1
        have G1 := Lib.hid (only_trans GW.out g1)
        clear o1 g1
        go_wp2
        go_roundw
        case rel => exact ⟨d, j, p + j, P ++ Y, X2, X1, Q, by go_num, rfl, by omega, hj, by omega, hmj, L2.out, LX2.out, LX1.out, O1.out, ET2.out, G1.out⟩
        case measure => simp [intOf]; omega
      · obtain ⟨Y1, Y2, rfl, hY1⟩ : ∃ Y1 Y2, Y = Y1 ++ Y2 ∧ Y1.length = j - i := ⟨Y.take (j - i), Y.drop (j - i), (List.take_append_drop _ _).symm, by rw [List.length_take, LY.out]; omega⟩
        have hY2 : Y2.length = i := by have := LY.out; rw [List.length_append] at this; omega
        obtain ⟨d, hd⟩ : ∃ d, j - i = d := ⟨_, rfl⟩
        rw [hd] at hY1
        have C := swapRangeK wr (L := P ++ X ++ Y1 ++ Y2 ++ Q) (by have := OW.out; simpa using this) p (m + d) i (by omega) (by omega) hn
        have hE : swR (P ++ X ++ Y1 ++ Y2 ++ Q) p (m + d) i = P ++ Y2 ++ Y1 ++ X ++ Q := by
          have h := swR_eq X Y2 P Y1 Q (by rw [LX.out, hY2])
          rw [LP.out, LX.out, hY1, hpi] at h
          exact h
        rw [hE] at C
        have CC := Lib.hid C
        have hne : ((i : Int) != j) = true := by simp; omega
        have hgt : ¬ (j : Int) < i := by omega
        have e4 : (j : Int) - i = d := by omega
        have e5 : (m : Int) + j - i = m + d := by omega
        have LY1 := Lib.hid hY1
        have LY2 := Lib.hid hY2
        have ET2 : Hid (P ++ Y1 ++ Y2 ++ (X ++ Q) = T) := by show _ = _; rw [← ET.out]; simp
        clear C hE hY1 hY2
        unfold cmpV at CC
        go_wp2_with fail
        refine CC.out.mono ?_
        rintro e w1 ⟨rfl, o1, g1⟩
        have O1 : Hid (OwnL w1 B (.slice (some ⟨g, 0, none⟩) n c) (P ++ Y2 ++ Y1 ++ (X ++ Q))) := by show OwnL _ _ _ _; simpa using o1
        have G1 := Lib.hid (only_trans GW.out g1)
        clear o1 g1
        go_wp2
        go_roundw
        case rel => exact ⟨i, d, p, P, Y2, Y1, X ++ Q, rfl, by go_num, hi, by omega, hpi, by omega, LP.out, LY2.out, LY1.out, O1.out, ET2.out, G1.out⟩
        case measure => simp [intOf]; omega
end Go.Proofs.Ytmboadgmhafedaa
