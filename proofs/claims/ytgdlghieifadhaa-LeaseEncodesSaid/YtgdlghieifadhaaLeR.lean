/-
  Lease: the reference's Four and its options.
-/
import Derived.Test.YtgdlghieifadhaaLeB
import Derived.Deep.RegionHeld3
set_option linter.unusedVariables false
namespace Go.Proofs.Ytgdlghieifadhaa
open Go.RowKit

theorem leB_four (v : Int) (h0 : 0 ≤ v) (h1 : v ≤ 4294967295) : Lib.byteCells (beB v.toNat 4) = [.int .u8 (v / 16777216), .int .u8 (v / 65536 % 256), .int .u8 (v / 256 % 256), .int .u8 (v % 256)] := by
  have e1 : ((UInt8.ofNat (v.toNat / 256 ^ 3 % 256)).toNat : Int) = v / 16777216 := by simp only [Nat.reducePow, UInt8.toNat_ofNat']; omega
  have e2 : ((UInt8.ofNat (v.toNat / 256 ^ 2 % 256)).toNat : Int) = v / 65536 % 256 := by simp only [Nat.reducePow, UInt8.toNat_ofNat']; omega
  have e3 : ((UInt8.ofNat (v.toNat / 256 ^ 1 % 256)).toNat : Int) = v / 256 % 256 := by simp only [Nat.reducePow, UInt8.toNat_ofNat']; omega
  have e4 : ((UInt8.ofNat (v.toNat / 256 ^ 0 % 256)).toNat : Int) = v % 256 := by simp only [Nat.reducePow, UInt8.toNat_ofNat']; omega
  simp only [beB, Lib.byteCells, List.map_cons, List.map_nil, e1, e2, e3, e4]
set_option maxHeartbeats 400000 in
theorem le_rfour (w : World) (v : Int) (h0 : 0 ≤ v) (h1 : v ≤ 4294967295) :
    Calls Try.prog 50 #[.int .u32 v] w fun e w' => ∃ g, e = .returned (.slice (some ⟨g, 0, none⟩) 4 4) ∧ w'.ownsRow w.heap.size 5 1 (.slice (some ⟨g, 0, none⟩) 4 4) 4 (Lib.byteCells (beB v.toNat 4)) ∧ Below w.heap.size w w' := by
  have b1 : v / 16777216 ≤ 255 := by omega
  have b0 : 0 ≤ v / 16777216 := by omega
  have hown := own_lit (base := w.heap.size) (e := 5) (size := 1) w #[.int .u8 (v / 16777216), .int .u8 (v / 65536 % 256), .int .u8 (v / 256 % 256), .int .u8 (v % 256)] 4 rfl (Nat.le_refl _) (by unfold maxLen; omega) rfl
  have HE := Lib.hid (leB_four v h0 h1)
  have HO := Lib.hid hown; clear hown
  go_enter Try.func50, Try.ntmps50
  go_wp2
  go_ret
  rw [HE.out]
  exact ⟨_, rfl, HO.out, al (rf w) _⟩
set_option maxRecDepth 100000 in
set_option maxHeartbeats 1600000 in
theorem le_raddr (w : World) (k v : Int) (k0 : 0 ≤ k) (k1 : k ≤ 255) (v0 : 0 ≤ v) (v1 : v ≤ 4294967295) :
    Calls Try.prog 51 #[.int .u8 k, .int .u32 v] w fun e w' => ∃ A c, e = .returned (.slice A (leO (k, v)).length c) ∧ w'.ownsRow w.heap.size 5 1 (.slice A (leO (k, v)).length c) (leO (k, v)).length (Lib.byteCells (leO (k, v))) ∧ Below w.heap.size w w' := by
  by_cases hv : v = 0
  · subst hv
    have HE : Hid (leO (k, 0) = []) := if_pos rfl
    go_enter Try.func51, Try.ntmps51
    go_wp2
    go_ret
    rw [HE.out]
    exact ⟨none, 0, rfl, World.ownsRow_nil _ _ _ _, rf w⟩
  · have e0 : (v == 0) = false := by simpa using hv
    have HE : Hid (leO (k, v) = beB k.toNat 1 ++ beB 4 1 ++ beB v.toNat 4) := if_neg hv
    have OL : ∀ W : World, w.heap.size ≤ W.heap.size → (W.alloc (.cells #[.int .u8 k, .int .u8 4] 5)).ownsRow w.heap.size 5 1 (.slice (some ⟨W.heap.size, 0, none⟩) 2 2) 2 [.int .u8 k, .int .u8 4] := fun W h => own_lit W #[.int .u8 k, .int .u8 4] 2 rfl h (by unfold maxLen; omega) rfl
    have HOL := Lib.hid OL
    have H4 := Lib.hid (fun W : World => le_rfour W v v0 v1)
    clear OL hv
    go_enter Try.func51, Try.ntmps51
    have hz1 : w.heap.size ≤ (w.alloc (.cells #[.int .u8 k, .int .u8 4] 5)).heap.size := by simp
    go_wp2_with fail
    refine (H4.out _).mono ?_
    rintro e w5 ⟨g5, rfl, o5, b5⟩
    have O5 := Lib.hid o5
    have B5 := Lib.hid b5
    have hz5 := b5.size
    clear o5 b5 H4
    go_wp2_with (at_builtin; refine app_any stB rfl (.tmp 8) (.tmp 10) rfl w.heap.size (.slice (some ⟨w.heap.size, 0, none⟩) 2 2) 2 [.int .u8 k, .int .u8 4] rfl (own_nx (HOL.out w (Nat.le_refl _)) B5.out) (some ⟨g5, 0, none⟩) 4 4 (Lib.byteCells (beB v.toNat 4)) rfl (Reads.of_own O5.out) (one_u8 _) (by omega) (by omega) (by omega) ?_; intro v9 w9 own9 gr9 at9 bel9; obtain ⟨A9, k9, rfl⟩ := own_slice own9)
    have ek : Lib.byteCells (beB k.toNat 1 ++ beB 4 1 ++ beB v.toNat 4) = [.int .u8 k, .int .u8 4] ++ Lib.byteCells (beB v.toNat 4) := by
      have h1 : ((UInt8.ofNat (k.toNat / 256 ^ 0 % 256)).toNat : Int) = k := by simp only [Nat.reducePow, UInt8.toNat_ofNat']; omega
      rw [byteCells_app]
      congr 1
      simp only [beB, Lib.byteCells, List.map_append, List.map_cons, List.map_nil, h1]
      rfl
    have el : (leO (k, v)).length = 2 + 4 := by rw [HE.out]; simp [beB_len]
    have BF : Below w.heap.size w w9 := ((al (rf w) _).trans (B5.out.mono hz1)).trans bel9
    have OF : w9.ownsRow w.heap.size 5 1 (.slice A9 (2 + 4) k9) (2 + 4) (Lib.byteCells (leO (k, v))) := by
      rw [HE.out, ek]; exact own9
    have HOF := Lib.hid OF
    have HBF := Lib.hid BF
    have HEL := Lib.hid el
    clear own9 gr9 at9 bel9 OF BF el ek
    go_wp2
    go_ret
    refine ⟨A9, k9, by rw [HEL.out]; rfl, ?_, HBF.out⟩
    rw [HEL.out]
    exact HOF.out
end Go.Proofs.Ytgdlghieifadhaa
