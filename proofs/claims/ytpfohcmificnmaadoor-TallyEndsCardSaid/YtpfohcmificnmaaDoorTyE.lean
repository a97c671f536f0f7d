/-
  Tally: the walk of the law on a counter's end.
-/
import Derived.Test.YtpfohcmificnmaaDoorTyNo
set_option linter.unusedVariables false
namespace Go.Proofs.YtpfohcmificnmaaDoor
open Go.RowKit Go.Maps

-- a slice of ints that reads as a list
def IntsR (w : World) (A : Option Addr) (l : List Int) : Prop := Reads w w.heap.size 1 A l.length (l.map (Value.int .i64))
theorem IntsR.nx {w w' : World} {A : Option Addr} {l : List Int} (h : IntsR w A l) (k : Below w.heap.size w w') : IntsR w' A l := (Reads.below h k).more k.size
theorem IntsR.at_ {w : World} {A : Option Addr} {l : List Int} (h : IntsR w A l) {k : Nat} (hk : k < l.length) : ∃ ad, A = some ad ∧ w.cell? (ad.add k) = some (.int .i64 l[k]) := by
  obtain ⟨ad, u, hA, hb, hu, hc⟩ := Reads.at_ h hk
  rw [List.getElem?_map, List.getElem?_eq_getElem hk] at hu
  exact ⟨ad, hA, hc.trans hu.symm⟩
theorem zs_get (n : Nat) (v : Int) (h : n < 17) : (zB.set n v).getD n 0 = v := by
  rw [List.getD_eq_getElem?_getD, List.getElem?_set_self (by simpa [zB] using h)]; rfl
theorem zs_other (n i : Nat) (v : Int) (h : n ≠ i) : (zB.set n v).getD i 0 = 0 := by
  rw [List.getD_eq_getElem?_getD, List.getElem?_set_ne h, ← List.getD_eq_getElem?_getD, zB_get]
theorem zs_set (n : Nat) (v x : Int) : (zB.set n v).set n x = zB.set n x := by rw [List.set_set]
theorem zs_zero (n : Nat) : zB.set n 0 = zB := by
  apply List.ext_getElem?
  intro i
  rw [List.getElem?_set]
  unfold zB
  rw [List.getElem?_replicate]
  split
  · rename_i h; subst h
    simp
  · rfl
theorem sumT_lo (v x : Int) (h : 0 ≤ x) (hv : v ≤ topN) : v ≤ sumT v x ∧ sumT v x ≤ topN := by unfold sumT; omega
set_option maxHeartbeats 1600000 in
set_option maxRecDepth 10000 in
theorem tallyEnds_walk (N : Int) (A : Option Addr) (c : Nat) (l : List Int) (w : World) (hl : IntsR w A l) (hm : MaxL w) (hmx : l.length ≤ maxLen) :
    Calls Tryd.prog 3 #[.int .i64 N, .slice A l.length c] w fun e w' => e = .returned (.bool true) ∧ Below w.heap.size w w' := by
  have HM := Lib.hid hm
  have HK := Lib.hid (knownC w hm)
  have hp := hm.pos
  clear hm
  by_cases h1 : N < 0
  · go_enter Tryd.func3, Tryd.ntmps3
    go_wp2_with fail
    refine HK.out.mono ?_
    rintro e w1 ⟨rfl, b1⟩
    go_wp2
    go_ret
    exact ⟨rfl, b1⟩
  by_cases h2 : (16 : Int) < N
  · go_enter Tryd.func3, Tryd.ntmps3
    go_wp2_with fail
    refine HK.out.mono ?_
    rintro e w1 ⟨rfl, b1⟩
    go_wp2
    go_ret
    exact ⟨rfl, b1⟩
  by_cases h3 : (200 : Int) < l.length
  · go_enter Tryd.func3, Tryd.ntmps3
    go_wp2_with fail
    refine HK.out.mono ?_
    rintro e w1 ⟨rfl, b1⟩
    go_wp2
    go_ret
    exact ⟨rfl, b1⟩
  obtain ⟨n, rfl⟩ : ∃ n : Nat, N = n := ⟨N.toNat, by omega⟩
  have hn : n < 17 := by omega
  have HN := Lib.hid (newB w)
  have HO0 : Hid (Below w.heap.size w (w.alloc (.cells zBv.toArray 44))) := al (rf w) _
  have HL := Lib.hid hl
  clear hl HK
  go_enter Tryd.func3, Tryd.ntmps3
  go_wp2_with fail
  go_loopw [6, 7, 8] (fun la i _ wr => ∃ (k : Nat) (v : Int), k ≤ l.length ∧ i = .int .i64 k ∧ la = .int .i64 v ∧ 0 ≤ v ∧ v ≤ topN ∧ Hid (IsB wr w.heap.size w.heap.size (zB.set n v)) ∧ Hid (Below w.heap.size w wr)) (fun _ i _ _ => l.length - (intOf i).toNat)
  case atStart => exact ⟨0, 0, by omega, rfl, rfl, by omega, by decide, by rw [zs_zero]; exact HN, HO0⟩
  case round =>
    obtain ⟨k, v, hk, rfl, rfl, v0, v1, HB, HO⟩ := hrel
    by_cases hlt : k < l.length
    · obtain ⟨ad, rfl, hc⟩ := (HL.out.nx HO.out).at_ hlt
      have k0 : (0 : Int) ≤ k := by omega
      have k1 : (k : Int) < l.length := by omega
      generalize l[k] = x at hc
      by_cases hx : 0 ≤ x ∧ x ≤ 2147483647
      · have HA := Lib.hid (addOk wr _ _ _ n x hn HB.out hx.1 hx.2 (by rw [zs_get n v hn]; exact v0) (by rw [zs_get n v hn]; exact v1))
        rw [zs_get n v hn, zs_set] at HA
        obtain ⟨s1, s2⟩ := sumT_lo v x hx.1 v1
        generalize sumT v x = y at HA s1 s2
        have y1 : ¬ y < v := by omega
        have y2 : ¬ (4611686018427387904 : Int) < y := by unfold topN at s2; omega
        go_wp2_with fail
        refine HA.out.mono ?_
        rintro e w1 ⟨rfl, i1, g1⟩
        have HB1 := Lib.hid i1
        have HO1 := Lib.hid (HO.out.trans (below_only g1 (Nat.le_refl _) HO.out.size))
        have hg := getC w1 _ _ _ n hn i1
        rw [zs_get n y hn] at hg
        have HG := Lib.hid hg
        clear i1 g1 hg HA HB HO hc
        go_wp2_with fail
        refine HG.out.mono ?_
        rintro e w2 ⟨rfl, rfl⟩
        go_wp2
        go_roundw
        case rel => exact ⟨k + 1, y, by omega, by go_num, rfl, by omega, s2, HB1, HO1⟩
        case measure => simp [intOf]; omega
      · have HA := Lib.hid (addBad wr w.heap.size n x (by omega))
        have hg := getC wr _ _ _ n hn HB.out
        rw [zs_get n v hn] at hg
        have HG := Lib.hid hg
        have y1 : ¬ v < v := by omega
        have y2 : ¬ (4611686018427387904 : Int) < v := by unfold topN at v1; omega
        clear hg hx
        go_wp2_with fail
        refine HA.out.mono ?_
        rintro e w1 ⟨rfl, rfl⟩
        go_wp2_with fail
        refine HG.out.mono ?_
        rintro e w2 ⟨rfl, rfl⟩
        go_wp2
        go_roundw
        case rel => exact ⟨k + 1, v, by omega, by go_num, rfl, v0, v1, HB, HO⟩
        case measure => simp [intOf]; omega
    · have k1 : ¬ (k : Int) < l.length := by omega
      go_wp2_with fail
      go_loopw [9] (fun i wr' => ∃ (j : Nat), j ≤ 17 ∧ i = .int .i64 j ∧ wr' = wr) (fun i _ => 17 - (intOf i).toNat)
      case atStart => exact ⟨0, by omega, rfl, rfl⟩
      case round =>
        obtain ⟨j, hj, rfl, rfl⟩ := hrel
        by_cases hjt : j < 17
        · have j1 : (j : Int) < 17 := by omega
          by_cases hjn : j = n
          · subst hjn
            have q : ((j : Int) != (j : Int)) = false := by simp
            go_wp2
            go_roundw
            case rel => exact ⟨j + 1, by omega, by go_num, trivial⟩
            case measure => simp [intOf]; omega
          · have q : ((j : Int) != (n : Int)) = true := by rw [bne_iff_ne]; omega
            have hg := getC _ _ _ _ j hjt HB.out
            rw [zs_other n j v (fun e => hjn e.symm)] at hg
            have HG := Lib.hid hg
            clear hg hjn
            go_wp2_with fail
            refine HG.out.mono ?_
            rintro e w2 ⟨rfl, rfl⟩
            go_wp2
            go_roundw
            case rel => exact ⟨j + 1, by omega, by go_num, trivial⟩
            case measure => simp [intOf]; omega
        · have j1 : ¬ (j : Int) < 17 := by omega
          have HK := Lib.hid (knownC _ (HM.out.nx HO.out))
          go_wp2_with fail
          refine HK.out.mono ?_
          rintro e w2 ⟨rfl, b2⟩
          go_wp2
          go_ret
          exact ⟨rfl, nx HO.out b2⟩
end Go.Proofs.YtpfohcmificnmaaDoor
