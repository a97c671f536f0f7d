/-
  Ports that are picked with one draw follow one another, round the end, each once. No conditions.
-/
import Derived.Test.YtbhplleaokncpaaPmK
import Derived.Test.YtbhplleaokncpaaLaw
set_option linter.unusedVariables false
namespace Go.Proofs.Ytbhplleaokncpaa
open Go.ChangeShapes Go.WideShapes Go.ChangeAt Go.RowKit

def rowS (d : Int) (i : Nat) : List Pl := (List.range i).map fun (j : Nat) => newP j 0 (pickAt d j)
theorem rowS_len (d : Int) (i : Nat) : (rowS d i).length = i := by simp [rowS]
theorem rowS_mem {d : Int} {i : Nat} {p : Pl} (h : p ∈ rowS d i) : ∃ j, j < i ∧ p = newP (j : Nat) 0 (pickAt d j) := by
  obtain ⟨j, hj, e⟩ := List.mem_map.1 h
  exact ⟨j, by simpa using hj, e.symm⟩
theorem rowS_succ (d : Int) (i : Nat) : rowS d i ++ [newP i 0 (pickAt d i)] = rowS d (i + 1) := by
  unfold rowS; rw [List.range_succ, List.map_append]; rfl
theorem row_may (d : Int) (i : Nat) (h : i < 64) : mayR (rowS d i) i = 0 := by
  unfold mayR
  rw [if_neg (by omega), if_neg, if_neg (by rw [rowS_len]; omega)]
  intro hi
  obtain ⟨p, hp, e⟩ := ids_mem hi
  obtain ⟨j, hj, rfl⟩ := rowS_mem hp
  have : (j : Int) = (i : Int) := e
  omega
theorem row_full (d : Int) : mayR (rowS d 64) (64 : Nat) = 6 := by
  unfold mayR
  rw [if_neg (by decide), if_neg, if_pos (by rw [rowS_len]; decide)]
  intro hi
  obtain ⟨p, hp, e⟩ := ids_mem hi
  obtain ⟨j, hj, rfl⟩ := rowS_mem hp
  have : (j : Int) = ((64 : Nat) : Int) := e
  omega
theorem pickAt_inj {d : Int} (hd : 0 ≤ d) {i j : Nat} (hi : i < 64) (hj : j < 64) (h : pickAt d j = pickAt d i) : j = i := by
  unfold pickAt at h
  have m0 : 0 ≤ d % 16384 := Int.emod_nonneg _ (by decide)
  have m1 : d % 16384 < 16384 := Int.emod_lt_of_pos _ (by decide)
  generalize d % 16384 = m at *
  omega
theorem row_pick {d : Int} (hd : 0 ≤ d) (i : Nat) (h : i < 64) : pickK (rowS d i) 0 d = some i := by
  refine pick_some (by omega) (fun j hj => ?_) ?_
  · show List.all _ _ = false
    rw [List.all_eq_false]
    refine ⟨newP j 0 (pickAt d j), List.mem_map.2 ⟨j, by simpa using hj, rfl⟩, ?_⟩
    simp [clash, newP]
  · show List.all _ _ = true
    rw [List.all_eq_true]
    intro p hp
    obtain ⟨j, hj, rfl⟩ := rowS_mem hp
    have hne : pickAt d j ≠ pickAt d i := fun e => by have := pickAt_inj hd h (by omega) e; omega
    simp [clash, newP, hne]
theorem row_pickR {d draw : Int} (hd : 0 ≤ d) (hm : max 0 draw = d) (i : Nat) (h : i < 64) : pickR (rowS d i) i 0 draw = ((pickAt d i, 0), rowS d (i + 1)) := by
  rw [pickR_some (row_may d i h) hm (row_pick hd i h), rowS_succ]
theorem wf_small (i : Nat) (h : i ≤ 64) : (Lit.int .i64 (i : Int)).wf = true := WalkArith.wf_i64 (by omega)
set_option maxRecDepth 100000 in
set_option maxHeartbeats 1600000 in
theorem portsRound_walk (draw n : Int) (w : World) :
    Calls Try.prog 4 #[.int .i64 draw, .int .i64 n] w fun e w' => e = .returned (.bool true) ∧ Below w.heap.size w w' := by
  have H0 := Lib.hid (Pw.new w)
  by_cases h1 : n < 0
  · go_enter Try.func4, Try.ntmps4
    go_wp2_with fail
    refine (known _).mono ?_
    rintro e w9 ⟨rfl, hb9⟩
    go_wp2
    go_ret
    exact ⟨rfl, hb9⟩
  by_cases h2 : 64 < n
  · go_enter Try.func4, Try.ntmps4
    go_wp2_with fail
    refine (known _).mono ?_
    rintro e w9 ⟨rfl, hb9⟩
    go_wp2
    go_ret
    exact ⟨rfl, hb9⟩
  obtain ⟨N, rfl⟩ := Int.eq_ofNat_of_zero_le (Int.not_lt.1 h1)
  have hN : N ≤ 64 := by omega
  have hN' : (N : Int) ≤ 64 := by omega
  obtain ⟨d, hd⟩ : ∃ d, (if (0 : Int) < draw then draw else 0) = d := ⟨_, rfl⟩
  have hd0 : 0 ≤ d := by rw [← hd]; split <;> omega
  have hmx : max 0 draw = d := by rw [← hd]; split <;> omega
  have HMX := Lib.hid hmx
  have m0 : 0 ≤ d % 16384 := Int.emod_nonneg _ (by decide)
  have m1 : d % 16384 < 16384 := Int.emod_lt_of_pos _ (by decide)
  obtain ⟨m, hm⟩ : ∃ m, d % 16384 = m := ⟨_, rfl⟩
  rw [hm] at m0 m1
  have HM := Lib.hid hm
  have htm : d.tmod 16384 = m := by rw [Int.tmod_eq_emod_of_nonneg hd0]; exact hm
  clear hm hmx h1 h2
  have HPK : Hid (∀ i : Nat, i < 64 → pickR (rowS d i) i 0 draw = ((49152 + (m + i) % 16384, 0), rowS d (i + 1))) := fun i hi => by
    rw [row_pickR hd0 HMX.out i hi]; unfold pickAt; rw [HM.out]
  go_enter Try.func4, Try.ntmps4
  go_wp2_with fail
  go_loopw [6] (fun iv wr => ∃ i : Nat, i ≤ N ∧ iv = .int .i64 i ∧ Pw w wr w.heap.size (rowS d i)) (fun iv _ => N - (intOf iv).toNat)
  case atStart => exact ⟨0, Nat.zero_le _, rfl, H0.out⟩
  case round =>
    obtain ⟨i, hi, rfl, hp⟩ := hrel
    have HP := Lib.hid hp
    clear hp
    by_cases hlt : i < N
    · have hlt' : (i : Int) < N := by omega
      have hi64 : (i : Int) ≤ 64 := by omega
      go_wp2_with fail
      refine (pickQ HP.out (wf_small i (by omega)) (by rw [rowS_len]; omega) (HPK.out i (by omega))).mono ?_
      rintro e w1 ⟨rfl, hp1⟩
      have HP1 := Lib.hid hp1; clear hp1
      go_wp2
      go_roundw
      case rel => exact ⟨i + 1, by omega, by go_num, HP1.out⟩
      case measure => simp [intOf]; omega
    · obtain rfl : i = N := by omega
      by_cases h64 : i = 64
      · subst h64
        go_wp2_with fail
        refine (pickQ (n := 0) (r := 6) HP.out (wf_small 64 (by omega)) (by rw [rowS_len]; omega) (by rw [pickR_may (by rw [row_full]; decide), row_full])).mono ?_
        rintro e w1 ⟨rfl, hp1⟩
        have HP1 := Lib.hid hp1; clear hp1
        go_wp2_with fail
        refine (known _).mono ?_
        rintro e w9 ⟨rfl, hb9⟩
        go_wp2
        go_ret
        exact ⟨rfl, nx HP1.out.b hb9⟩
      · have q : ((i : Int) == 64) = false := by rw [beq_eq_false_iff_ne]; omega
        have i64 : i < 64 := by omega
        have HI := Lib.hid i64
        clear h64 i64
        go_wp2_with fail
        refine (pickQ HP.out (wf_small i (by omega)) (by rw [rowS_len]; omega) (HPK.out i HI.out)).mono ?_
        rintro e w1 ⟨rfl, hp1⟩
        have HP1 := Lib.hid hp1; clear hp1
        go_wp2_with fail
        refine (known _).mono ?_
        rintro e w9 ⟨rfl, hb9⟩
        go_wp2
        go_ret
        exact ⟨rfl, nx HP1.out.b hb9⟩

set_option maxRecDepth 100000 in
theorem portsRound_lifted (os : Os) (started : os.Started) (H : Type) (enc : TypeId × Value → H) :
    ReturnsInHanded {} Try.checked os 4 .any (Rows.portsRoundSpec.pre6 enc Try.prog Try.f4 Rows.portsRoundRow.domain false) (Rows.portsRoundSpec.post enc Try.prog Try.f4 false true false false) :=
  law_lift started (by kernel_rfl) Try.func4
    (ChangeSpec.witness6 (enc := enc) (C := Try.checked) false ⟨#[], #[.int .i64 0, .int .i64 0], []⟩ 8 (by kernel_rfl) (by kernel_rfl) (by kernel_rfl) (by kernel_rfl))
    rfl rfl Try.underlying4 (by kernel_rfl) (fun ds h => match ds, h with | [_, _], _ => rfl)
    (fun W base args ds p hval hA hsz => by
      rw [Try.params4] at hA hval
      obtain ⟨v0, v1, d0, d1, p0, p1, rfl, rfl, rfl, h0, h1⟩ := trodAll_two hA
      obtain ⟨n0, rfl, _, _, _⟩ := open_int Try.underlying3 (hval 0 3 v0 rfl rfl) h0
      obtain ⟨n1, rfl, _, _, _⟩ := open_int Try.underlying3 (hval 1 3 v1 rfl rfl) h1
      exact portsRound_walk n0 n1 W)

theorem portsRound_holds : Rows.PortsRoundSaid :=
  OpenClaim.holds_of_wide 4 Try.f4 rfl rfl rfl rfl rfl rfl rfl ⟨rfl, rfl, rfl, rfl, rfl⟩ rfl rfl rfl rfl rfl (by kernel_rfl) Try.func4 (by kernel_rfl)
    (of_decide_eq_true (by kernel_rfl)) (by unfold Func.isWrapper; rw [if_neg (of_decide_eq_false (by kernel_rfl))]; exact ⟨rfl, rfl⟩)
    (fun os started H enc _ => portsRound_lifted os started H enc)
end Go.Proofs.Ytbhplleaokncpaa
