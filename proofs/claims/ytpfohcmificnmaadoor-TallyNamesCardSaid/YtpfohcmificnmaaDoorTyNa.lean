/-
  Tally: the walk of the law on the counters' names.
-/
import Derived.Test.YtpfohcmificnmaaDoorTyNo
set_option linter.unusedVariables false
namespace Go.Proofs.YtpfohcmificnmaaDoor
open Go.RowKit Go.Maps

theorem namesC (w : World) : Calls Tryd.prog 11 #[] w fun e w' => ∃ g, e = .returned (.slice (some ⟨g, 0, none⟩) 17 17) ∧ w.heap.size ≤ g ∧ Blk w' g 9 nmC.toArray ∧ Below w.heap.size w w' := by
  go_enter Tryd.func11, Tryd.ntmps11
  go_wp2
  go_ret
  exact ⟨_, rfl, Nat.le_refl _, Blk.new w _ _, al (rf w) _⟩
theorem countC (w : World) : Calls Tryd.prog 14 #[] w fun e w' => e = .returned (.int .i64 17) ∧ w' = w := by
  go_enter Tryd.func14, Tryd.ntmps14
  go_wp2
  go_ret
  exact ⟨rfl, rfl⟩
theorem nameOutB (w : World) (B b : Nat) (cs : List Int) (n : Int) (hn : n < 0 ∨ 17 ≤ n) (h : IsB w B b cs) (hm : MaxL w) (h0 : 0 < b) (hB : B ≤ w.heap.size) :
    Calls Tryd.prog 12 #[.pointer (some ⟨b, 0, none⟩), .int .i64 n] w fun e w' => e = .returned (.string ⟨#[]⟩) ∧ IsB w' B b cs ∧ w.grownBy w' (some b) := by
  refine (nameOut w b n hn).mono ?_
  rintro e w' ⟨rfl, rfl⟩
  exact ⟨rfl, h, World.grownBy.refl _ _⟩
theorem bs_eq (k : Nat) (s : ByteArray) : ((bsAt k).toList == s.toList) = decide (nmAt k = s.data.toList) := by
  rw [ByteArray.toList_eq, ByteArray.toList_eq, bsAt_data]
  by_cases h : nmAt k = s.data.toList
  · rw [h]; simp
  · simp [h]
set_option maxHeartbeats 3200000 in
set_option maxRecDepth 10000 in
theorem tallyNames_walk (N : Int) (s : ByteArray) (w : World) (hm : MaxL w) (hs : s.size ≤ maxLen) :
    Calls Tryd.prog 4 #[.int .i64 N, .string s] w fun e w' => e = .returned (.bool true) ∧ Below w.heap.size w w' := by
  have HM := Lib.hid hm
  have hp := hm.pos
  have HS := Lib.hid hs
  clear hm hs
  by_cases h3 : (200 : Int) < s.size
  · go_enter Tryd.func4, Tryd.ntmps4
    go_wp2
    go_ret
    exact ⟨rfl, rf w⟩
  have HN := Lib.hid (newB w)
  have HO0 : Hid (Below w.heap.size w (w.alloc (.cells zBv.toArray 44))) := al (rf w) _
  go_enter Tryd.func4, Tryd.ntmps4
  go_wp2_with fail
  refine (namesC _).mono ?_
  rintro e w1 ⟨g, rfl, hg, hbk, b1⟩
  have HG := Lib.hid hbk
  have HB := Lib.hid (HN.out.nx b1)
  have HO := Lib.hid (nx HO0.out b1)
  have hgw : Hid (w.heap.size < g) := by show _ < _; simp at hg; omega
  clear b1 hbk hg HN HO0
  go_wp2_with fail
  go_loopw [7] (fun i wr => ∃ k : Nat, k ≤ 17 ∧ i = .int .i64 k ∧ Hid (IsB wr w.heap.size w.heap.size zB) ∧ Hid (Below w.heap.size w wr) ∧ Hid (Blk wr g 9 nmC.toArray)) (fun i _ => 17 - (intOf i).toNat)
  case atStart => exact ⟨0, by omega, rfl, HB, HO, HG⟩
  case round =>
    obtain ⟨k, hk, rfl, HB, HO, HG⟩ := hrel
    by_cases hlt : k < 17
    · have k0 : (0 : Int) ≤ k := by omega
      have k1 : (k : Int) < 17 := by omega
      have hc : wr.cell? ⟨g, k, none⟩ = some (.string (bsAt k)) := HG.out.cellL k (nmC_at k hlt)
      have q1 : ((bsAt k).toList != (bsAt k).toList) = false := by simp
      have e7 : numD (bsAt k).data.toList = k := by rw [bsAt_data, numD_at k hlt]
      have hgs := HG.out.lt
      have HMw := Lib.hid (HM.out.nx HO.out)
      have hkz := bsAt_size k hlt
      have hkm : (bsAt k).size ≤ maxLen := by unfold maxLen; omega
      clear hlt
      go_wp2_with fail
      go_region_held3 (fun w' => w'.cell? ⟨g, k, none⟩ = some (.string (bsAt k)))
        (first | exact hc | (with_reducible exact P2) | (with_reducible exact P1) | fail)
        (first
          | (go_at_call 12
             refine (nameC _ w.heap.size w.heap.size zB k (by omega) (HB.out.nx (by first | exact (rf wr).drew | exact rf wr)) (HMw.out.nx (by first | exact (rf wr).drew | exact rf wr)) hp (by first | exact HO.out.size | (simp; exact HO.out.size))).mono ?_
             rintro e8 w8 ⟨rfl, i8, g8⟩
             have P1 : w8.cell? ⟨g, k, none⟩ = some (.string (bsAt k)) := by
               have := (HG.out.nx (by first | exact (rf wr).drew | exact rf wr)).only g8 (by have := hgw.out; omega)
               exact this.cellL k (nmC_at k (by omega))
             have HB8 := Lib.hid i8
             have HM8 := Lib.hid ((HMw.out.nx (by first | exact (rf wr).drew | exact rf wr)).only g8 hp)
             have HO8 : Hid (Below w.heap.size w w8) := by
               refine HO.out.trans ?_
               first
                 | exact below_only g8 (Nat.le_refl _) HO.out.size
                 | exact (below_only (only_drew (World.grownBy.refl wr (some w.heap.size))) (Nat.le_refl _) HO.out.size).trans (below_only g8 (Nat.le_refl _) (by simp; exact HO.out.size))
             have HG8 : Hid (Blk w8 g 9 nmC.toArray) := (HG.out.nx (by first | exact (rf wr).drew | exact rf wr)).only g8 (by have := hgw.out; omega)
             clear i8 g8)
          | (go_at_call 13
             refine (numC _ w.heap.size w.heap.size zB (bsAt k) hkm HB8.out HM8.out hp HO8.out.size).mono ?_
             rw [e7]
             rintro e9 w9 ⟨rfl, i9, g9⟩
             have HB9 := Lib.hid i9
             have HO9 := Lib.hid (HO8.out.trans (below_only g9 (Nat.le_refl _) HO8.out.size))
             have HG9 := Lib.hid (HG8.out.only g9 (by have := hgw.out; omega))
             have P2 : w9.cell? ⟨g, k, none⟩ = some (.string (bsAt k)) := HG9.out.cellL k (nmC_at k (by omega))
             clear i9 g9)
          | fail)
      all_goals
        go_wp2
        go_roundw
        case rel => exact ⟨k + 1, by omega, by go_num, HB9, HO9, HG9⟩
        case measure => simp [intOf]; omega
    · have k1 : ¬ (k : Int) < 17 := by omega
      go_wp2_with fail
      go_loopw [8, 9] (fun want i wr' => ∃ j : Nat, j ≤ 17 ∧ i = .int .i64 j ∧ want = .int .i64 (numK j s.data.toList) ∧ wr' = wr) (fun _ i _ => 17 - (intOf i).toNat)
      case atStart => exact ⟨0, by omega, rfl, rfl, rfl⟩
      case round =>
        obtain ⟨j, hj, rfl, rfl, rfl⟩ := hrel
        by_cases hjt : j < 17
        · have j0 : (0 : Int) ≤ j := by omega
          have j1 : (j : Int) < 17 := by omega
          have hc : wr.cell? ⟨g, j, none⟩ = some (.string (bsAt j)) := HG.out.cellL j (nmC_at j hjt)
          have hq := bs_eq j s
          by_cases he : nmAt j = s.data.toList
          · have q : ((bsAt j).toList == s.toList) = true := by rw [hq]; simp [he]
            have q' : (bsAt j).toList = s.toList := by simpa using q
            have HNK : Hid (numK (j + 1) s.data.toList = j) := by show _ = _; unfold numK; rw [if_pos he]
            clear hq he
            go_wp2
            go_roundw
            case rel => exact ⟨j + 1, by omega, by go_num, by rw [HNK.out], trivial⟩
            case measure => simp [intOf]; omega
          · have q : ((bsAt j).toList == s.toList) = false := by rw [hq]; simp [he]
            have q' : ¬ (bsAt j).toList = s.toList := by simpa using q
            have HNK : Hid (numK (j + 1) s.data.toList = numK j s.data.toList) := by show _ = _; conv => lhs; unfold numK; rw [if_neg he]
            clear hq he
            go_wp2
            go_roundw
            case rel => exact ⟨j + 1, by omega, by go_num, by rw [HNK.out], trivial⟩
            case measure => simp [intOf]; omega
        · obtain rfl : j = 17 := by omega
          have HMw := Lib.hid (HM.out.nx HO.out)
          obtain ⟨D, hD⟩ : ∃ D, D = numD s.data.toList := ⟨_, rfl⟩
          have HNU := Lib.hid (numC wr _ _ zB s HS.out HB.out HMw.out hp HO.out.size)
          rw [← hD] at HNU
          rw [show numK 17 s.data.toList = D from hD.symm]
          clear hD hjt hj hlt hk k1
          by_cases n0 : 0 ≤ N
          · by_cases n1 : N < 17
            · obtain ⟨n, rfl⟩ : ∃ n : Nat, N = n := ⟨N.toNat, by omega⟩
              have hc : wr.cell? ⟨g, n, none⟩ = some (.string (bsAt n)) := HG.out.cellL n (nmC_at n (by omega))
              go_wp2_with fail
              refine (countC wr).mono ?_
              rintro e w8 ⟨rfl, rfl⟩
              go_wp2_with fail
              refine HNU.out.mono ?_
              rintro e w9 ⟨rfl, i9, g9⟩
              have HM9 := Lib.hid (HMw.out.only g9 hp)
              have HO9 := Lib.hid (HO.out.trans (below_only g9 (Nat.le_refl _) HO.out.size))
              have HNA := Lib.hid (nameC w9 _ _ zB n (by omega) i9 HM9.out hp HO9.out.size)
              clear i9 g9
              go_wp2_with fail
              refine HNA.out.mono ?_
              rintro e w10 ⟨rfl, i10, g10⟩
              have HO10 := Lib.hid (HO9.out.trans (below_only g10 (Nat.le_refl _) HO9.out.size))
              have HKN := Lib.hid (knownC w10 (HM9.out.only g10 hp))
              clear i10 g10
              go_wp2_with fail
              refine HKN.out.mono ?_
              rintro e w11 ⟨rfl, b11⟩
              go_wp2
              go_ret
              exact ⟨rfl, nx HO10.out b11⟩
            · go_wp2_with fail
              refine (countC wr).mono ?_
              rintro e w8 ⟨rfl, rfl⟩
              go_wp2_with fail
              refine HNU.out.mono ?_
              rintro e w9 ⟨rfl, i9, g9⟩
              have HM9 := Lib.hid (HMw.out.only g9 hp)
              have HO9 := Lib.hid (HO.out.trans (below_only g9 (Nat.le_refl _) HO.out.size))
              have HNA := Lib.hid (nameOutB w9 _ _ zB N (by omega) i9 HM9.out hp HO9.out.size)
              clear i9 g9
              go_wp2_with fail
              refine HNA.out.mono ?_
              rintro e w10 ⟨rfl, i10, g10⟩
              have HO10 := Lib.hid (HO9.out.trans (below_only g10 (Nat.le_refl _) HO9.out.size))
              have HKN := Lib.hid (knownC w10 (HM9.out.only g10 hp))
              clear i10 g10
              go_wp2_with fail
              refine HKN.out.mono ?_
              rintro e w11 ⟨rfl, b11⟩
              go_wp2
              go_ret
              exact ⟨rfl, nx HO10.out b11⟩
          · go_wp2_with fail
            refine (countC wr).mono ?_
            rintro e w8 ⟨rfl, rfl⟩
            go_wp2_with fail
            refine HNU.out.mono ?_
            rintro e w9 ⟨rfl, i9, g9⟩
            have HM9 := Lib.hid (HMw.out.only g9 hp)
            have HO9 := Lib.hid (HO.out.trans (below_only g9 (Nat.le_refl _) HO.out.size))
            have HNA := Lib.hid (nameOutB w9 _ _ zB N (by omega) i9 HM9.out hp HO9.out.size)
            clear i9 g9
            go_wp2_with fail
            refine HNA.out.mono ?_
            rintro e w10 ⟨rfl, i10, g10⟩
            have HO10 := Lib.hid (HO9.out.trans (below_only g10 (Nat.le_refl _) HO9.out.size))
            have HKN := Lib.hid (knownC w10 (HM9.out.only g10 hp))
            clear i10 g10
            go_wp2_with fail
            refine HKN.out.mono ?_
            rintro e w11 ⟨rfl, b11⟩
            go_wp2
            go_ret
            exact ⟨rfl, nx HO10.out b11⟩
end Go.Proofs.YtpfohcmificnmaaDoor
