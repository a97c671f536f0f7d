/-
  A lease's client: what its methods do, by the plain rules, the rest.
-/
import Derived.Test.YtgdlghieifadhaaLs2
set_option linter.unusedVariables false
namespace Go.Proofs.Ytgdlghieifadhaa
open Go.RowKit

theorem Ls.len (m : Ls) : m.cs.length = 16 := rfl
theorem timeT (b : Nat) (mac : M6) (s : St) (w : World) (T : Int) (h : IsC w b mac s) (hs : s.ok) (hT : Hid (10 * s.lease.time = T)) :
    Calls Try.prog 37 #[.pointer (some ⟨b, 0, none⟩)] w fun e w' => e = .returned (.int .i64 T) ∧ w' = w := by
  have := timeC b mac s w h hs
  rwa [hT.out] at this
set_option maxHeartbeats 800000 in
theorem renewsC (b : Nat) (mac : M6) (s : St) (now draw : Int) (w : World) (h : IsC w b mac s) (hs : s.ok) (h3 : 3 ≤ s.st) (h0 : 0 ≤ now) (h1 : now ≤ 1152921504606846976) :
    Calls Try.prog 31 #[.pointer (some ⟨b, 0, none⟩), .int .i64 now, .int .i64 draw] w fun e w' => Does w w' b mac (renewS s now) (some (sameM mac (renewS s now))) e := by
  have c6 : w.cell? ⟨b, 6, none⟩ = some (.int .i64 s.st) := h.cell 6
  have c8 : w.cell? ⟨b, 8, none⟩ = some (.int .i64 s.next) := h.cell 8
  have c42 : w.cell? ⟨b, 42, none⟩ = some (.int .i64 s.fr) := h.cell 42
  have f6 := Blk.frozen h 6
  have f8 := Blk.frozen h 8
  have t0 := hs.t0
  have t1 := hs.t1
  have r0 := hs.f0
  have r1 := hs.f1
  unfold renewS
  by_cases e3 : s.st = 3
  · rw [if_pos e3]
    have q1 : ((s.st : Int) == 3) = true := by rw [beq_iff_eq]; exact e3
    clear e3 h3
    have H1 : Hid (IsC ((w.setCell ⟨b, 6, none⟩ (.int .i64 4)).setCell ⟨b, 8, none⟩ (.int .i64 (now + 60))) b mac { s with st := 4, next := now + 60 }) :=
      (h.set 6 _ { s with st := 4 } rfl).set 8 _ _ rfl
    go_enter Try.func31, Try.ntmps31
    go_wp2_with fail
    refine (plus now 60 _ h0 (by omega) (by omega) (by omega)).mono ?_
    rintro e w1 ⟨rfl, rfl⟩
    go_wp2_with fail
    refine (sameC b mac _ _ H1.out).mono ?_
    rintro e w4 ⟨v, rfl, hm, hb⟩
    go_wp2
    go_ret
    have g1 : w.grownBy ((w.setCell ⟨b, 6, none⟩ (.int .i64 4)).setCell ⟨b, 8, none⟩ (.int .i64 (now + 60))) (some b) := only_setCell (p := ⟨b, 8, none⟩) (only_setCell (p := ⟨b, 6, none⟩) (World.grownBy.refl _ _) (.inl rfl) _) (.inl rfl) _
    exact ⟨v, rfl, hm.more g1.size, H1.out.nx hb, only_nx g1 hb⟩
  · rw [if_neg e3]
    have q1 : ((s.st : Int) == 3) = false := by rw [beq_eq_false_iff_ne]; exact e3
    by_cases e4 : s.st = 4
    · have q2 : ((s.st : Int) == 4) = true := by rw [beq_iff_eq]; exact e4
      by_cases hl : late s ≤ now
      · rw [if_pos ⟨e4, hl⟩]
        have H1 : ∀ n, IsC (((w.drewN n).setCell ⟨b, 6, none⟩ (.int .i64 5)).setCell ⟨b, 8, none⟩ (.int .i64 (now + 60))) b mac { s with st := 5, next := now + 60 } := fun n =>
          ((show IsC (w.drewN n) b mac s from h).set 6 _ { s with st := 5 } rfl).set 8 _ _ rfl
        have H1' := Lib.hid H1; clear H1
        clear e3 h3 e4
        unfold late at hl
        generalize hT : 10 * s.lease.time = T at hl
        have HT := Lib.hid hT; clear hT
        have T0 : 0 ≤ T := by have := HT.out; omega
        have T1 : T ≤ 21474836470 := by have := HT.out; omega
        go_enter Try.func31, Try.ntmps31
        go_wp2
        have w1 : IntKind.i64.wrap (T / 8 * 7) = T / 8 * 7 := IntWalk.i64_in _ (by omega)
        have w2 : IntKind.i64.wrap (T % 8 * 7) = T % 8 * 7 := IntWalk.i64_in _ (by omega)
        have w3 : IntKind.i64.wrap (T / 8 * 7 + T % 8 * 7 / 8) = T / 8 * 7 + T % 8 * 7 / 8 := IntWalk.i64_in _ (by omega)
        have w4 : T.tdiv 8 = T / 8 := Int.tdiv_eq_ediv_of_nonneg T0
        have w5 : T.tmod 8 = T % 8 := Int.tmod_eq_emod_of_nonneg T0
        have w6 : (T % 8 * 7).tdiv 8 = T % 8 * 7 / 8 := Int.tdiv_eq_ediv_of_nonneg (by omega)
        have K2 := Lib.hid (show T / 8 * 7 + T % 8 * 7 / 8 ≤ 21474836470 ∧ 0 ≤ T / 8 * 7 + T % 8 * 7 / 8 by omega)
        go_quiet ((first
          | (go_at_call 37; exact Calls.quiet_of_same (timeT b mac s _ T (by exact h) hs HT))
          | (go_at_call 33; exact Calls.quiet_of_same (plus s.fr (T / 8 * 7 + T % 8 * 7 / 8) _ r0 (by exact Int.le_trans r1 (by decide)) K2.out.2 (by exact Int.le_trans K2.out.1 (by decide))))))
        clear w1 w2 w3 w4 w5 w6
        go_wp2_with fail
        refine (plus now 60 _ h0 (by omega) (by omega) (by omega)).mono ?_
        rintro e w1 ⟨rfl, rfl⟩
        go_wp2_with fail
        refine (sameC b mac _ _ (H1'.out _)).mono ?_
        rintro e w4 ⟨v, rfl, hm, hb⟩
        go_wp2
        go_ret
        have g1 : w.grownBy (((w.drewN nq).setCell ⟨b, 6, none⟩ (.int .i64 5)).setCell ⟨b, 8, none⟩ (.int .i64 (now + 60))) (some b) := only_setCell (p := ⟨b, 8, none⟩) (only_setCell (p := ⟨b, 6, none⟩) (only_drewN (World.grownBy.refl _ _) _) (.inl rfl) _) (.inl rfl) _
        exact ⟨v, rfl, hm.more g1.size, (H1'.out _).nx hb, only_nx g1 hb⟩
      · rw [if_neg (fun h => hl h.2)]
        have H1 : ∀ n, IsC ((w.drewN n).setCell ⟨b, 8, none⟩ (.int .i64 (now + 60))) b mac { s with next := now + 60 } := fun n =>
          (show IsC (w.drewN n) b mac s from h).set 8 _ _ rfl
        have H1' := Lib.hid H1; clear H1
        clear e3 h3 e4
        unfold late at hl
        have hl' := Int.not_le.1 hl; clear hl
        generalize hT : 10 * s.lease.time = T at hl'
        have HT := Lib.hid hT; clear hT
        have T0 : 0 ≤ T := by have := HT.out; omega
        have T1 : T ≤ 21474836470 := by have := HT.out; omega
        go_enter Try.func31, Try.ntmps31
        go_wp2
        have w1 : IntKind.i64.wrap (T / 8 * 7) = T / 8 * 7 := IntWalk.i64_in _ (by omega)
        have w2 : IntKind.i64.wrap (T % 8 * 7) = T % 8 * 7 := IntWalk.i64_in _ (by omega)
        have w3 : IntKind.i64.wrap (T / 8 * 7 + T % 8 * 7 / 8) = T / 8 * 7 + T % 8 * 7 / 8 := IntWalk.i64_in _ (by omega)
        have w4 : T.tdiv 8 = T / 8 := Int.tdiv_eq_ediv_of_nonneg T0
        have w5 : T.tmod 8 = T % 8 := Int.tmod_eq_emod_of_nonneg T0
        have w6 : (T % 8 * 7).tdiv 8 = T % 8 * 7 / 8 := Int.tdiv_eq_ediv_of_nonneg (by omega)
        have K2 := Lib.hid (show T / 8 * 7 + T % 8 * 7 / 8 ≤ 21474836470 ∧ 0 ≤ T / 8 * 7 + T % 8 * 7 / 8 by omega)
        go_quiet ((first
          | (go_at_call 37; exact Calls.quiet_of_same (timeT b mac s _ T (by exact h) hs HT))
          | (go_at_call 33; exact Calls.quiet_of_same (plus s.fr (T / 8 * 7 + T % 8 * 7 / 8) _ r0 (by exact Int.le_trans r1 (by decide)) K2.out.2 (by exact Int.le_trans K2.out.1 (by decide))))))
        clear w1 w2 w3 w4 w5 w6
        go_wp2_with fail
        refine (plus now 60 _ h0 (by omega) (by omega) (by omega)).mono ?_
        rintro e w1 ⟨rfl, rfl⟩
        go_wp2_with fail
        refine (sameC b mac _ _ (H1'.out _)).mono ?_
        rintro e w4 ⟨v, rfl, hm, hb⟩
        go_wp2
        go_ret
        have g1 : w.grownBy ((w.drewN nq).setCell ⟨b, 8, none⟩ (.int .i64 (now + 60))) (some b) := only_setCell (p := ⟨b, 8, none⟩) (only_drewN (World.grownBy.refl _ _) _) (.inl rfl) _
        exact ⟨v, rfl, hm.more g1.size, (H1'.out _).nx hb, only_nx g1 hb⟩
    · rw [if_neg (fun h => e4 h.1)]
      have q2 : ((s.st : Int) == 4) = false := by rw [beq_eq_false_iff_ne]; exact e4
      have H1 : ∀ n, IsC ((w.drewN n).setCell ⟨b, 8, none⟩ (.int .i64 (now + 60))) b mac { s with next := now + 60 } := fun n =>
        (show IsC (w.drewN n) b mac s from h).set 8 _ _ rfl
      have H1' := Lib.hid H1; clear H1
      clear e3 h3 e4
      go_enter Try.func31, Try.ntmps31
      go_wp2
      go_quiet (fail)
      go_wp2_with fail
      refine (plus now 60 _ h0 (by omega) (by omega) (by omega)).mono ?_
      rintro e w1 ⟨rfl, rfl⟩
      go_wp2_with fail
      refine (sameC b mac _ _ (H1'.out _)).mono ?_
      rintro e w4 ⟨v, rfl, hm, hb⟩
      go_wp2
      go_ret
      have g1 : w.grownBy ((w.drewN nq).setCell ⟨b, 8, none⟩ (.int .i64 (now + 60))) (some b) := only_setCell (p := ⟨b, 8, none⟩) (only_drewN (World.grownBy.refl _ _) _) (.inl rfl) _
      exact ⟨v, rfl, hm.more g1.size, (H1'.out _).nx hb, only_nx g1 hb⟩
def relS (s : St) : St := { s with st := 0, offer := zeroL, lease := zeroL }
def relO (mac : M6) (s : St) : Option Ls := if 3 ≤ s.st then some (says mac s.id 7 s.lease.yours s.lease.server) else none
set_option maxHeartbeats 400000 in
theorem releaseC (b : Nat) (mac : M6) (s : St) (w : World) (h : IsC w b mac s) :
    Calls Try.prog 18 #[.pointer (some ⟨b, 0, none⟩)] w fun e w' => Does w w' b mac (relS s) (relO mac s) e := by
  have c6 : w.cell? ⟨b, 6, none⟩ = some (.int .i64 s.st) := h.cell 6
  have c28 : w.cell? ⟨b, 28, none⟩ = some (.int .u32 s.lease.yours) := h.cell 28
  have c36 : w.cell? ⟨b, 36, none⟩ = some (.int .u32 s.lease.server) := h.cell 36
  have f6 := Blk.frozen h 6
  unfold relO
  by_cases h3 : 3 ≤ s.st
  · rw [if_pos h3]
    have KK : ∀ w', Below w.heap.size w w' → w'.cell? ⟨b, 28, none⟩ = some (.int .u32 s.lease.yours) ∧ w'.cell? ⟨b, 36, none⟩ = some (.int .u32 s.lease.server) := fun w' k => ⟨(k.cell (p := ⟨b, 28, none⟩) (Blk.lt h)).trans c28, (k.cell (p := ⟨b, 36, none⟩) (Blk.lt h)).trans c36⟩
    have K := Lib.hid KK; clear KK
    go_enter Try.func18, Try.ntmps18
    go_wp2_with fail
    refine (hasC b mac s _ h).mono ?_
    rintro e w1 ⟨rfl, rfl⟩
    go_wp2
    go_region_held3 (fun w' => w'.cell? ⟨b, 28, none⟩ = some (.int .u32 s.lease.yours) ∧ w'.cell? ⟨b, 36, none⟩ = some (.int .u32 s.lease.server)) (first | go_keep | exact K.out _ (nx (rf _).drew (by assumption)))
        (first | (go_at_call 38; refine (saysC b mac s _ _ _ _ (by exact h)).mono ?_; rintro e w2 ⟨v, rfl, hm, hb⟩))
    obtain ⟨g, rfl, hg1, hg2⟩ := hm
    have bw2 : Below w1.heap.size w1 w2 := nx (rf w1).drew hb
    have h2 : IsC w2 b mac s := IsC.nx h bw2
    have d6 : w2.cell? ⟨b, 6, none⟩ = some (.int .i64 s.st) := h2.cell 6
    have k6 := Blk.frozen h2 6
    have hgb : g ≠ b := by have := Blk.lt h; intro e; subst e; exact absurd hg1 (by have : w1.drew.heap.size = w1.heap.size := rfl; omega)
    have HG := Lib.hid hgb; clear hgb
    have H1 := Lib.hid (h2.set 6 (.int .i64 0) { s with st := 0 } rfl)
    go_wp2_with (first
      | ((with_reducible refine wpList_store_blk rfl 27 28 23 rfl b 10 zeroL.cs (by kernel_rfl) (by kernel_rfl) 63 _ H1.out (by rw [clCs_len]; decide) (by kernel_rfl) zeroL.one ?_); intro w3 hB3 g3; have H2 := Lib.hid (IsC.lay { s with st := 0, offer := zeroL } hB3 rfl); clear hB3)
      | ((with_reducible refine wpList_store_blk rfl 27 30 24 rfl b 26 zeroL.cs (by kernel_rfl) (by kernel_rfl) 63 _ H2.out (by rw [clCs_len]; decide) (by kernel_rfl) zeroL.one ?_); intro w4 hB4 g4; have H3 := Lib.hid (IsC.lay (relS s) hB4 rfl); clear hB4))
    go_ret
    have g1 : w2.grownBy w4 (some b) := only_trans (only_trans (only_setCell (p := ⟨b, 6, none⟩) (World.grownBy.refl _ _) (.inl rfl) _) g3) g4
    exact ⟨_, rfl, ⟨g, rfl, hg1, hg2.only g1 HG.out⟩, H3.out, only_trans (only_of bw2) g1⟩
  · rw [if_neg h3]
    have H1 := Lib.hid (h.set 6 (.int .i64 0) { s with st := 0 } rfl)
    go_enter Try.func18, Try.ntmps18
    go_wp2_with fail
    refine (hasC b mac s _ h).mono ?_
    rintro e w1 ⟨rfl, rfl⟩
    go_wp2_with (first
      | ((with_reducible refine wpList_store_blk rfl 27 28 23 rfl b 10 zeroL.cs (by kernel_rfl) (by kernel_rfl) 63 _ H1.out (by rw [clCs_len]; decide) (by kernel_rfl) zeroL.one ?_); intro w3 hB3 g3; have H2 := Lib.hid (IsC.lay { s with st := 0, offer := zeroL } hB3 rfl); clear hB3)
      | ((with_reducible refine wpList_store_blk rfl 27 30 24 rfl b 26 zeroL.cs (by kernel_rfl) (by kernel_rfl) 63 _ H2.out (by rw [clCs_len]; decide) (by kernel_rfl) zeroL.one ?_); intro w4 hB4 g4; have H3 := Lib.hid (IsC.lay (relS s) hB4 rfl); clear hB4))
    go_ret
    exact ⟨_, rfl, rfl, H3.out, only_trans (only_trans (only_setCell (p := ⟨b, 6, none⟩) (World.grownBy.refl _ _) (.inl rfl) _) g3) g4⟩
def leaseV (s : St) : Ls := if 3 ≤ s.st then s.lease else zeroL
set_option maxHeartbeats 400000 in
theorem hasMC (b : Nat) (mac : M6) (s : St) (w : World) (h : IsC w b mac s) :
    Calls Try.prog 16 #[.pointer (some ⟨b, 0, none⟩)] w fun e w' => e = .returned (.tuple #[.agg (leaseV s).cs.toArray, .bool (decide (3 ≤ s.st))]) ∧ Below w.heap.size w w' := by
  have R2 : Blk (w.alloc (.cells #[.int .i64 0, .int .u32 0, .int .u32 0, .int .u8 0, .int .u8 0, .int .u8 0, .int .u8 0, .int .u8 0, .int .u8 0, .int .i64 0, .int .u32 0, .int .u32 0, .int .i64 0, .int .u32 0, .int .u32 0, .int .u32 0] 27)) w.heap.size 27 zeroL.cs.toArray := Blk.new _ _ _
  have HR := Lib.hid R2; clear R2
  have H' := Lib.hid (h.nx (al (rf w) (.cells #[.int .i64 0, .int .u32 0, .int .u32 0, .int .u8 0, .int .u8 0, .int .u8 0, .int .u8 0, .int .u8 0, .int .u8 0, .int .i64 0, .int .u32 0, .int .u32 0, .int .i64 0, .int .u32 0, .int .u32 0, .int .u32 0] 27)))
  have bw : Below w.heap.size w (w.alloc (.cells #[.int .i64 0, .int .u32 0, .int .u32 0, .int .u8 0, .int .u8 0, .int .u8 0, .int .u8 0, .int .u8 0, .int .u8 0, .int .i64 0, .int .u32 0, .int .u32 0, .int .i64 0, .int .u32 0, .int .u32 0, .int .u32 0] 27)) := al (rf w) _
  unfold leaseV
  by_cases h3 : 3 ≤ s.st
  · rw [if_pos h3]
    go_enter Try.func16, Try.ntmps16
    go_wp2_with fail
    refine (hasC b mac s _ H'.out).mono ?_
    rintro e w1 ⟨rfl, rfl⟩
    go_wp2_with (first
      | (with_reducible refine wpList_load_blk rfl 27 10 rfl b 26 16 (by kernel_rfl) 63 _ s.lease.cs H'.out (by kernel_rfl) _ Try.underlying27 (by kernel_rfl) (by kernel_rfl) ?_)
      | ((with_reducible refine wpList_store_blk rfl 27 2 11 rfl w.heap.size 0 s.lease.cs (by kernel_rfl) (by kernel_rfl) 27 zeroL.cs HR.out (by rw [Ls.len, Ls.len]; decide) (by kernel_rfl) s.lease.one ?_); intro w3 hB3 g3))
    have hB4 : Blk w3 w.heap.size 27 s.lease.cs.toArray := by
      rw [show splice zeroL.cs 0 s.lease.cs = s.lease.cs by kernel_rfl] at hB3; exact hB3
    refine bodyPost_ret (v := .tuple #[.agg s.lease.cs.toArray, .bool (decide (3 ≤ s.st))]) ((run_results_cell_tmp rfl _ _ _ _ _ _ _ rfl hB4 Try.underlying27 rfl (by kernel_rfl)).trans ?_) rfl ⟨rfl, bw.trans (below_only g3 (Nat.le_refl _) (by simp))⟩
    rw [show decide (3 ≤ s.st) = true by simpa using h3]; rfl
  · rw [if_neg h3]
    have hd : decide (3 ≤ s.st) = false := by simpa using h3
    rw [hd]
    go_enter Try.func16, Try.ntmps16
    go_wp2_with fail
    refine (hasC b mac s _ H'.out).mono ?_
    rintro e w1 ⟨rfl, rfl⟩
    rw [hd]
    go_wp2_with ((with_reducible refine wpList_store_blk rfl 27 2 7 rfl w.heap.size 0 zeroL.cs (by kernel_rfl) (by kernel_rfl) 27 zeroL.cs HR.out (by rw [Ls.len]; decide) (by kernel_rfl) zeroL.one ?_); intro w3 hB3 g3)
    have hB4 : Blk w3 w.heap.size 27 zeroL.cs.toArray := by
      rw [show splice zeroL.cs 0 zeroL.cs = zeroL.cs by kernel_rfl] at hB3; exact hB3
    refine bodyPost_ret (v := .tuple #[.agg zeroL.cs.toArray, .bool false]) ((run_results_cell_tmp rfl _ _ _ _ _ _ _ rfl hB4 Try.underlying27 rfl (by kernel_rfl)).trans rfl) rfl ⟨rfl, bw.trans (below_only g3 (Nat.le_refl _) (by simp))⟩
end Go.Proofs.Ytgdlghieifadhaa
