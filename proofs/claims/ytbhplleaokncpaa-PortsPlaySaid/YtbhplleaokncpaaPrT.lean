/-
  Ports: the reference's Pick.
-/
import Derived.Test.YtbhplleaokncpaaPrS
set_option linter.unusedVariables false
namespace Go.Proofs.Ytbhplleaokncpaa
open Go.RowKit

def rpickK (L : List Rp) (a d : Int) : Option Nat := (List.range 16384).find? fun k => !takenR L a (pickAt d k)
def rpickR (L : List Rp) (id a draw : Int) : (Int × Int) × List Rp :=
  if id < 0 then ((0, 1), L) else if 0 ≤ spotR L id then ((0, 8), L) else if 64 ≤ L.length then ((0, 6), L) else match rpickK L a (max 0 draw) with
    | some k => ((pickAt (max 0 draw) k, 0), L ++ [newR id a (pickAt (max 0 draw) k)])
    | none => ((0, 22), L)
theorem rpick_some {L : List Rp} {a d : Int} {k : Nat} (hk : k < 16384) (hb : ∀ j < k, takenR L a (pickAt d j) = true) (h : takenR L a (pickAt d k) = false) : rpickK L a d = some k := by
  unfold rpickK
  rw [List.find?_range_eq_some]
  exact ⟨by rw [h]; rfl, by simpa using hk, fun j hj => by rw [hb j hj]; rfl⟩
theorem rpick_none {L : List Rp} {a d : Int} (hb : ∀ j < 16384, takenR L a (pickAt d j) = true) : rpickK L a d = none := by
  unfold rpickK
  rw [List.find?_eq_none]
  intro j hj
  rw [hb j (by simpa using hj)]; simp
set_option maxRecDepth 100000 in
set_option maxHeartbeats 3200000 in
theorem rpickC (B rb : Nat) (L : List Rp) (id a draw : Int) (w : World) (h : IsRf w B rb L) (hB : B ≤ w.heap.size) (hl : L.length ≤ 64) :
    Calls Try.prog 39 #[.pointer (some ⟨rb, 0, none⟩), .int .i64 id, .int .u32 a, .int .i64 draw] w fun e w' => e = .returned (.tuple #[.int .i64 (rpickR L id a draw).1.1, .int .i64 (rpickR L id a draw).1.2]) ∧ RfP w w' B rb (rpickR L id a draw).2 := by
  have HH := Lib.hid h
  obtain ⟨A, c, c0, f0, hcap, _⟩ := h.look
  have HSP := Lib.hid (spotC B rb L id w h hl)
  clear h
  by_cases h1 : id < 0
  · have HR : Hid (rpickR L id a draw = ((0, 1), L)) := by show _ = _; unfold rpickR; rw [if_pos h1]
    go_enter Try.func39, Try.ntmps39
    go_wp2
    go_ret2
    exact ⟨by rw [HR.out]; rfl, by rw [HR.out]; exact RfP.same HH.out hB (rf w)⟩
  obtain ⟨s, hs⟩ : ∃ s, spotR L id = s := ⟨_, rfl⟩
  rw [hs] at HSP
  by_cases h4 : 0 ≤ s
  · have HR : Hid (rpickR L id a draw = ((0, 8), L)) := by show _ = _; unfold rpickR; rw [if_neg h1, hs, if_pos h4]
    clear hs
    go_enter Try.func39, Try.ntmps39
    go_wp2_with fail
    refine HSP.out.mono ?_
    rintro e w1 ⟨rfl, rfl⟩
    go_wp2
    go_ret2
    exact ⟨by rw [HR.out]; rfl, by rw [HR.out]; exact RfP.same HH.out hB (rf _)⟩
  by_cases h5 : 64 ≤ L.length
  · have HR : Hid (rpickR L id a draw = ((0, 6), L)) := by show _ = _; unfold rpickR; rw [if_neg h1, hs, if_neg h4, if_pos h5]
    have i5 : ¬ (L.length : Int) < 64 := by omega
    clear hs
    go_enter Try.func39, Try.ntmps39
    go_wp2_with fail
    refine HSP.out.mono ?_
    rintro e w1 ⟨rfl, rfl⟩
    go_wp2
    go_ret2
    exact ⟨by rw [HR.out]; rfl, by rw [HR.out]; exact RfP.same HH.out hB (rf _)⟩
  have i5 : (L.length : Int) < 64 := by omega
  obtain ⟨d, hd⟩ : ∃ d, (if (0 : Int) < draw then draw else 0) = d := ⟨_, rfl⟩
  have hd0 : 0 ≤ d := by rw [← hd]; split <;> omega
  have hmx : max 0 draw = d := by rw [← hd]; split <;> omega
  have HR : Hid (rpickR L id a draw = match rpickK L a d with
    | some k => ((pickAt d k, 0), L ++ [newR id a (pickAt d k)])
    | none => ((0, 22), L)) := by show _ = _; unfold rpickR; rw [if_neg h1, hs, if_neg h4, if_neg h5, hmx]
  have HBB := Lib.hid hB
  clear hs hmx hB
  go_enter Try.func39, Try.ntmps39
  go_wp2_with fail
  refine HSP.out.mono ?_
  rintro e w1 ⟨rfl, rfl⟩
  go_wp2_with fail
  go_loopw [10] (fun iv wr => ∃ k : Nat, k ≤ 16384 ∧ iv = .int .i64 k ∧ Hid (Below w1.heap.size w1 wr) ∧ Hid (∀ j < k, takenR L a (pickAt d j) = true)) (fun iv _ => 16384 - (intOf iv).toNat)
  case atStart => exact ⟨0, by omega, rfl, rf _, fun j hj => absurd hj (by omega)⟩
  case round =>
    obtain ⟨k, hk, rfl, HW, HNO⟩ := hrel
    by_cases hlt : k < 16384
    · have m0 : 0 ≤ d % 16384 := Int.emod_nonneg _ (by decide)
      have m1 : d % 16384 < 16384 := Int.emod_lt_of_pos _ (by decide)
      obtain ⟨m, hm⟩ : ∃ m, d % 16384 = m := ⟨_, rfl⟩
      rw [hm] at m0 m1
      have HM := Lib.hid hm
      have htm : d.tmod 16384 = m := by rw [Int.tmod_eq_emod_of_nonneg hd0]; exact hm
      clear hm
      have hpe : pickAt d k = 49152 + (m + k) % 16384 := by unfold pickAt; rw [HM.out]
      have HC2 := Lib.hid (takenC B rb L a (49152 + (m + k) % 16384) wr (HH.out.nx HW.out) hl)
      rw [← hpe] at HC2
      have HPE := Lib.hid hpe
      clear hpe HM
      cases hf : takenR L a (pickAt d k)
      · have HF := Lib.hid (rpick_some hlt HNO.out hf)
        rw [hf, HPE.out] at HC2
        clear hf
        go_wp2_with fail
        refine HC2.out.mono ?_
        rintro e w2 ⟨rfl, b2⟩
        have HB2 := Lib.hid (nx HW.out b2)
        obtain ⟨v, hb0, ow0⟩ := (HH.out.nx HB2.out).row
        obtain ⟨A0, k0, rfl⟩ := own_slice ow0
        have HB0 := Lib.hid hb0
        have OW0 := Lib.hid ow0
        have hlo := HH.out.lo
        have e0 : w2.cell? ⟨rb, 0, none⟩ = some (.slice A0 L.length k0) := hb0.cell 0
        have hB2 : B ≤ w2.heap.size := Nat.le_trans HBB.out HB2.out.size
        obtain ⟨port, hport⟩ : ∃ port : Int, port = 49152 + (m + k) % 16384 := ⟨_, rfl⟩
        rw [← hport] at HPE ⊢
        clear hb0 ow0 b2 c0 f0 HC2 hport
        go_wp2_with (at_builtin
                     refine app_any stP rfl (.tmp 47) (.tmp 52) rfl B (.slice A0 L.length k0) L.length (rcs L) rfl (OW0.out.alloc _) (some ⟨w2.heap.size, 0, none⟩) 1 1 (newR id a port).cs rfl ⟨rfl, fun _ => ⟨_, rfl, by simp, fun j u hj => ?cs⟩⟩ (by intro u hu; simp [newR, Rp.cs] at hu; rcases hu with rfl | rfl | rfl | rfl | rfl <;> rfl) (by omega) (by omega) (by simp; omega) ?_
                     case cs =>
                       rw [Addr.add_mid, Nat.zero_add]
                       refine (Blk.cell (Blk.new w2 97 (newR id a port).cs.toArray) j).trans ?_
                       rw [List.getElem?_toArray]
                       exact hj
                     intro v3 w3 ow3 gr3 at3 bel3
                     obtain ⟨A3, c3, rfl⟩ := own_slice ow3
                     have e3 : w3.cell? ⟨rb, 0, none⟩ = some (.slice A0 L.length k0) := ((HB0.out.alloc _).grown gr3 (own_ne OW0.out HB0.out)).cell 0
                     have f3 : w3.frozen? ⟨rb, 0, none⟩ = false := ((HB0.out.alloc _).grown gr3 (own_ne OW0.out HB0.out)).frozen 0)
        go_ret2
        have HR2 : rpickR L id a draw = ((port, 0), L ++ [newR id a port]) := by
          rw [HR.out, HF.out]
          show ((pickAt d k, 0), L ++ [newR id a (pickAt d k)]) = _
          rw [HPE.out]
        rw [HR2]
        refine ⟨rfl, ?_⟩
        have hP : ∀ pb S, IsP w1 B pb S → IsP w3 B pb S := fun pb S hp => (((hp.nx HB2.out).nx (al (rf w2) _)).ref gr3 (own_bad (OW0.out.alloc _)))
        have ow4 : w3.ownsRow B 97 5 (.slice A3 (L.length + 1) c3) (L ++ [newR id a port]).length (rcs (L ++ [newR id a port])) := by
          rw [rcs_app, List.length_append]
          exact ow3
        exact IsRf.put hlo ((HB0.out.alloc _).grown gr3 (own_ne OW0.out HB0.out)) ow4 ((HB2.out.mono HBB.out).trans (((Below.refl B w2).alloc hB2 _).trans bel3)) hP ((Keeps.of_below (nx HB2.out (al (rf w2) _))).trans (Keeps.of_row gr3 (own_bad (OW0.out.alloc _))))
      · have HF := Lib.hid hf
        rw [hf, HPE.out] at HC2
        clear hf
        go_wp2_with fail
        refine HC2.out.mono ?_
        rintro e w2 ⟨rfl, b2⟩
        have HB2 := Lib.hid (nx HW.out b2)
        clear b2
        go_wp2
        go_roundw
        case rel => exact ⟨k + 1, by omega, by go_num, HB2.out, fun j hj => by
          rcases Nat.lt_succ_iff_lt_or_eq.1 hj with hj | rfl
          · exact HNO.out j hj
          · exact HF.out⟩
        case measure => simp [intOf]; omega
    · have HF := Lib.hid (rpick_none (L := L) (a := a) (d := d) (fun j hj => HNO.out j (by omega)))
      go_wp2
      go_ret2
      rw [HR.out, HF.out]
      exact ⟨rfl, RfP.same HH.out HBB.out HW.out⟩
end Go.Proofs.Ytbhplleaokncpaa
