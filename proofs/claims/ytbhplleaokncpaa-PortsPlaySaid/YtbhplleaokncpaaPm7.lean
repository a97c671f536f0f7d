/-
  Ports: an id is given a place at a free port; it hears one alone; its place is taken away.
-/
import Derived.Test.YtbhplleaokncpaaPm6
set_option linter.unusedVariables false
namespace Go.Proofs.Ytbhplleaokncpaa
open Go.RowKit Go.Maps

theorem portC (n : Int) (w : World) : Calls Try.prog 37 #[.int .i64 n] w fun e w' => e = .returned (.bool (decide (0 ≤ n ∧ n ≤ 65535))) ∧ w' = w := by
  by_cases h0 : 0 ≤ n
  · by_cases h1 : n ≤ 65535
    · rw [decide_eq_true ⟨h0, h1⟩]
      go_enter Try.func37, Try.ntmps37
      go_wp2
      go_ret
      exact ⟨rfl, rfl⟩
    · rw [decide_eq_false (fun h => h1 h.2)]
      go_enter Try.func37, Try.ntmps37
      go_wp2
      go_ret
      exact ⟨rfl, rfl⟩
  · rw [decide_eq_false (fun h => h0 h.1)]
    go_enter Try.func37, Try.ntmps37
    go_wp2
    go_ret
    exact ⟨rfl, rfl⟩
def pickAt (d : Int) (k : Nat) : Int := 49152 + (d % 16384 + k) % 16384
def pickK (S : List Pl) (a d : Int) : Option Nat := (List.range 16384).find? fun k => freeR S a (pickAt d k)
def pickR (S : List Pl) (id a draw : Int) : (Int × Int) × List Pl :=
  if mayR S id ≠ 0 then ((0, mayR S id), S) else match pickK S a (max 0 draw) with
    | some k => ((pickAt (max 0 draw) k, 0), S ++ [newP id a (pickAt (max 0 draw) k)])
    | none => ((0, 22), S)
theorem pick_some {S : List Pl} {a d : Int} {k : Nat} (hk : k < 16384) (hb : ∀ j < k, freeR S a (pickAt d j) = false) (h : freeR S a (pickAt d k) = true) : pickK S a d = some k := by
  unfold pickK
  rw [List.find?_range_eq_some]
  exact ⟨h, by simpa using hk, fun j hj => by rw [hb j hj]; rfl⟩
theorem pick_none {S : List Pl} {a d : Int} (hb : ∀ j < 16384, freeR S a (pickAt d j) = false) : pickK S a d = none := by
  unfold pickK
  rw [List.find?_eq_none]
  intro j hj
  rw [hb j (by simpa using hj)]; simp
theorem pickR_may {S : List Pl} {id a draw : Int} (h : mayR S id ≠ 0) : pickR S id a draw = ((0, mayR S id), S) := by unfold pickR; rw [if_pos h]
theorem pickR_some {S : List Pl} {id a draw d : Int} {k : Nat} (h : mayR S id = 0) (hd : max 0 draw = d) (hk : pickK S a d = some k) : pickR S id a draw = ((pickAt d k, 0), S ++ [newP id a (pickAt d k)]) := by
  unfold pickR; rw [if_neg (by rw [h]; decide), hd, hk]
theorem pickR_none {S : List Pl} {id a draw d : Int} (h : mayR S id = 0) (hd : max 0 draw = d) (hk : pickK S a d = none) : pickR S id a draw = ((0, 22), S) := by
  unfold pickR; rw [if_neg (by rw [h]; decide), hd, hk]
set_option maxRecDepth 100000 in
set_option maxHeartbeats 3200000 in
theorem pickC (B pb : Nat) (S : List Pl) (id a draw : Int) (w : World) (h : IsP w B pb S) (hB : B ≤ w.heap.size) (hid : (Lit.int .i64 id).wf = true) (hS : S.length ≤ 64) :
    Calls Try.prog 15 #[.pointer (some ⟨pb, 0, none⟩), .int .i64 id, .int .u32 a, .int .i64 draw] w fun e w' => e = .returned (.tuple #[.int .i64 (pickR S id a draw).1.1, .int .i64 (pickR S id a draw).1.2]) ∧ Went w w' B pb (pickR S id a draw).2 := by
  have HC := Lib.hid (mayC B pb S id w h hid hS)
  by_cases h2 : mayR S id ≠ 0
  · rw [pickR_may h2]
    generalize mayR S id = m at HC h2 ⊢
    have q1 : ((m : Int) != 0) = true := by rw [bne_iff_ne]; exact h2
    clear h2
    go_enter Try.func15, Try.ntmps15
    go_wp2_with fail
    refine HC.out.mono ?_
    rintro e w1 ⟨rfl, rfl⟩
    go_wp2
    go_ret2
    exact ⟨rfl, Went.same h hB (rf _)⟩
  have h2' : mayR S id = 0 := Decidable.not_not.1 h2
  have H2 := Lib.hid h2'
  rw [h2'] at HC
  obtain ⟨d, hd⟩ : ∃ d, (if (0 : Int) < draw then draw else 0) = d := ⟨_, rfl⟩
  have hd0 : 0 ≤ d := by rw [← hd]; split <;> omega
  have hmx : max 0 draw = d := by rw [← hd]; split <;> omega
  have HMX := Lib.hid hmx
  have HH := Lib.hid h
  have HBB := Lib.hid hB
  have HID := Lib.hid hid
  have HS := Lib.hid hS
  clear h2 h2' hmx h hB hid hS
  go_enter Try.func15, Try.ntmps15
  go_wp2_with fail
  refine HC.out.mono ?_
  rintro e w1 ⟨rfl, rfl⟩
  go_wp2_with fail
  go_loopw [19] (fun iv wr => ∃ k : Nat, k ≤ 16384 ∧ iv = .int .i64 k ∧ Went w1 wr B pb S ∧ ∀ j < k, freeR S a (pickAt d j) = false) (fun iv _ => 16384 - (intOf iv).toNat)
  case atStart => exact ⟨0, by omega, rfl, Went.same HH.out HBB.out (rf _), fun j hj => absurd hj (by omega)⟩
  case round =>
    obtain ⟨k, hk, rfl, hw, hno⟩ := hrel
    have HW := Lib.hid hw
    have HNO := Lib.hid hno
    clear hw hno
    by_cases hlt : k < 16384
    · have m0 : 0 ≤ d % 16384 := Int.emod_nonneg _ (by decide)
      have m1 : d % 16384 < 16384 := Int.emod_lt_of_pos _ (by decide)
      obtain ⟨m, hm⟩ : ∃ m, d % 16384 = m := ⟨_, rfl⟩
      rw [hm] at m0 m1
      have HM := Lib.hid hm
      have htm : d.tmod 16384 = m := by rw [Int.tmod_eq_emod_of_nonneg hd0]; exact hm
      clear hm
      have hpe : pickAt d k = 49152 + (m + k) % 16384 := by unfold pickAt; rw [HM.out]
      have e0 : 0 ≤ (m + (k : Int)) % 16384 := Int.emod_nonneg _ (by decide)
      have e1 : (m + (k : Int)) % 16384 < 16384 := Int.emod_lt_of_pos _ (by decide)
      have HC2 := Lib.hid (bindC B pb S id a (49152 + (m + k) % 16384) wr HW.out.1 (Nat.le_trans HBB.out HW.out.2.2.2) HID.out HS.out)
      have hR : bindR S id a (49152 + (m + k) % 16384) = if freeR S a (pickAt d k) = false then (22, S) else (0, S ++ [newP id a (pickAt d k)]) := by
        unfold bindR
        rw [if_neg (by omega), if_neg (by rw [H2.out]; decide), hpe]
      rw [hR] at HC2
      have HPE := Lib.hid hpe
      clear hR hpe e0 e1 HM
      cases hf : freeR S a (pickAt d k)
      · rw [hf, if_pos rfl] at HC2
        have HF := Lib.hid hf; clear hf
        go_wp2_with fail
        refine HC2.out.mono ?_
        rintro e w2 ⟨rfl, hw2⟩
        have HW2 := Lib.hid hw2; clear hw2
        go_wp2
        go_roundw
        case rel => exact ⟨k + 1, by omega, by go_num, ⟨HW2.out.1, HW.out.2.1.trans HW2.out.2.1, HW.out.2.2.1.trans HW2.out.2.2.1, Nat.le_trans HW.out.2.2.2 HW2.out.2.2.2⟩, fun j hj => by
          rcases Nat.lt_succ_iff_lt_or_eq.1 hj with hj | rfl
          · exact HNO.out j hj
          · exact HF.out⟩
        case measure => simp [intOf]; omega
      · rw [hf, if_neg (by decide)] at HC2
        have HF := Lib.hid (pick_some hlt HNO.out hf); clear hf
        go_wp2_with fail
        refine HC2.out.mono ?_
        rintro e w2 ⟨rfl, hw2⟩
        have HW2 := Lib.hid hw2; clear hw2
        go_wp2
        go_ret2
        rw [pickR_some H2.out HMX.out HF.out]
        exact ⟨by rw [HPE.out]; rfl, HW2.out.1, HW.out.2.1.trans HW2.out.2.1, HW.out.2.2.1.trans HW2.out.2.2.1, Nat.le_trans HW.out.2.2.2 HW2.out.2.2.2⟩
    · have HF := Lib.hid (pick_none (fun j hj => HNO.out j (by omega)))
      go_wp2
      go_ret2
      rw [pickR_none H2.out HMX.out HF.out]
      exact ⟨rfl, HW.out⟩
end Go.Proofs.Ytbhplleaokncpaa
