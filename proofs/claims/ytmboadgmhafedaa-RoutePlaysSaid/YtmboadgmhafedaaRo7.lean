/-
  RoutePlays: for every script of steps the law 'of every script each answer, and all routes in their order' returns true. No conditions. Printed by gen_ro7.py.
-/
import Derived.Test.YtmboadgmhafedaaRo6
set_option linter.unusedVariables false
namespace Go.Proofs.Ytmboadgmhafedaa
open Go.ChangeShapes Go.WideShapes Go.ChangeAt Go.RowKit

theorem box_at {w : World} {g : Nat} {x0 x1 x2 x3 x4 x5 : Value} (h : Blk w g 49 #[x0, x1, x2, x3, x4, x5]) : w.cell? ⟨g, 1, none⟩ = some x1 ∧ w.cell? ⟨g, 2, none⟩ = some x2 ∧ w.cell? ⟨g, 3, none⟩ = some x3 ∧ w.cell? ⟨g, 4, none⟩ = some x4 := ⟨h.cell 1, h.cell 2, h.cell 3, h.cell 4⟩
set_option maxRecDepth 10000 in
set_option maxHeartbeats 6400000 in
theorem routePlays_walk (A : Option Addr) (n c : Nat) (l : List (List Value)) (w : World) (hn : n ≤ c) (hm : c ≤ maxLen) (hA : RowsAt w w.heap.size 6 A n l) (hl : ∀ r ∈ l, ∃ s : Stq, r = s.cs ∧ s.ok) :
    Calls Try.prog 5 #[.slice A n c] w fun e w' => e = .returned (.bool true) ∧ Below w.heap.size w w' := by
  unfold maxLen at hm
  have HA := Lib.hid hA
  have HL := Lib.hid hl
  have H0 := Lib.hid (bo_new w)
  have B0 : Hid (Below w.heap.size w ((w.alloc (.cells #[.slice none 0 0, .pointer none, .pointer none, .int .i64 0] 32)).alloc (.cells #[.slice none 0 0] 47))) := al (al (rf w) _) _
  have heq := eql_route
  clear hA hl
  go_enter Try.func5, Try.ntmps5
  go_wp2
  generalize (w.alloc (.cells #[.slice none 0 0, .pointer none, .pointer none, .int .i64 0] 32)).alloc (.cells #[.slice none 0 0] 47) = W at H0 B0 ⊢
  go_loopw [5] (fun iv wr => ∃ (i : Nat) (L : List R4), iv = .int .i64 i ∧ i ≤ 200 ∧ i ≤ n ∧ Hid (Bo wr w.heap.size w.heap.size (w.heap.size + 1) L L) ∧ Hid (Below w.heap.size w wr)) (fun iv _ => n - (intOf iv).toNat)
  case atStart => exact ⟨0, [], rfl, by decide, by omega, H0.out, B0.out⟩
  case round =>
    obtain ⟨i, L, rfl, hi, hin, HP, HB⟩ := hrel
    by_cases hlt : i < n
    rotate_left
    · have hq1 : decide ((i : Int) < n) = false := by rw [decide_eq_false_iff_not]; omega
      have HPd := Lib.hid (HP.out.nx (rf wr).drew)
      obtain ⟨v2, o2, hrow⟩ := HPd.out.row
      have HROW := Lib.hid hrow
      have cD : wr.drew.cell? ⟨w.heap.size + 1, 0, none⟩ = some v2 := (hrow _ (rf _)).1
      obtain ⟨A2, c2, hv2, hc2⟩ := o2.form
      subst hv2
      have HL64 := Lib.hid HP.out.ok.len
      clear o2 hrow
      go_wp2
      go_region_with (first
        | (go_at_call 11; refine HPd.out.all.mono ?_; rintro e w1 ⟨v1, rfl, o1, b1⟩
           have hr1 := HROW.out w1 b1
           have c1 := hr1.1
           have RK := Lib.hid (rowsK w1 o1 hr1.2 (Nat.le_trans HL64.out (by decide)))
           have B1 := Lib.hid (nx (rf wr).drew b1)
           obtain ⟨A1, c1', hv1, hc1⟩ := o1.form
           subst hv1
           clear hr1 b1 o1)
        | (go_at_call 13; refine RK.out.mono ?_; rintro e w3 ⟨rfl, b3⟩)
        | (go_at_call 8; refine (known _).mono ?_; rintro e w4 ⟨rfl, b4⟩)
        | fail)
      all_goals
        have HE := Lib.hid (nx HB.out (nx (nx B1.out b3) b4))
        clear b3 b4
        go_wp2
        go_ret
        exact ⟨rfl, HE.out⟩
    by_cases h200 : i < 200
    rotate_left
    · have hq1 : decide ((i : Int) < n) = true := by rw [decide_eq_true_eq]; omega
      have hq2 : decide ((i : Int) < 200) = false := by rw [decide_eq_false_iff_not]; omega
      have HPd := Lib.hid (HP.out.nx (rf wr).drew)
      obtain ⟨v2, o2, hrow⟩ := HPd.out.row
      have HROW := Lib.hid hrow
      have cD : wr.drew.cell? ⟨w.heap.size + 1, 0, none⟩ = some v2 := (hrow _ (rf _)).1
      obtain ⟨A2, c2, hv2, hc2⟩ := o2.form
      subst hv2
      have HL64 := Lib.hid HP.out.ok.len
      clear o2 hrow
      go_wp2
      go_region_with (first
        | (go_at_call 11; refine HPd.out.all.mono ?_; rintro e w1 ⟨v1, rfl, o1, b1⟩
           have hr1 := HROW.out w1 b1
           have c1 := hr1.1
           have RK := Lib.hid (rowsK w1 o1 hr1.2 (Nat.le_trans HL64.out (by decide)))
           have B1 := Lib.hid (nx (rf wr).drew b1)
           obtain ⟨A1, c1', hv1, hc1⟩ := o1.form
           subst hv1
           clear hr1 b1 o1)
        | (go_at_call 13; refine RK.out.mono ?_; rintro e w3 ⟨rfl, b3⟩)
        | (go_at_call 8; refine (known _).mono ?_; rintro e w4 ⟨rfl, b4⟩)
        | fail)
      all_goals
        have HE := Lib.hid (nx HB.out (nx (nx B1.out b3) b4))
        clear b3 b4
        go_wp2
        go_ret
        exact ⟨rfl, HE.out⟩
    have hq1 : decide ((i : Int) < n) = true := by rw [decide_eq_true_eq]; omega
    have hq2 : decide ((i : Int) < 200) = true := by rw [decide_eq_true_eq]; omega
    obtain ⟨ad, rr, hA, hadB, hr, hlen, hcell⟩ := (HA.out.below HB.out).row hlt
    obtain rfl := hA
    obtain ⟨s, rfl, hok⟩ := HL.out rr (List.mem_of_getElem? hr)
    obtain ⟨kind, r, a⟩ := s
    obtain ⟨hru, hau⟩ := hok
    have HRU : Hid (InU r) := hru
    have HAU : Hid (a < 4294967296) := hau
    have y0 : wr.cell? (ad.add (i * 6)) = some (.int .i64 kind) := hcell 0 _ rfl
    have y1 : wr.cell? ⟨(ad.add (i * 6)).block, (ad.add (i * 6)).off + 1, none⟩ = some (.int .u32 r.x) := hcell 1 _ rfl
    have y2 : wr.cell? ⟨(ad.add (i * 6)).block, (ad.add (i * 6)).off + 2, none⟩ = some (.int .i64 r.y) := hcell 2 _ rfl
    have y3 : wr.cell? ⟨(ad.add (i * 6)).block, (ad.add (i * 6)).off + 3, none⟩ = some (.int .u32 r.z) := hcell 3 _ rfl
    have y4 : wr.cell? ⟨(ad.add (i * 6)).block, (ad.add (i * 6)).off + 4, none⟩ = some (.int .i64 r.u) := hcell 4 _ rfl
    have y5 : wr.cell? ⟨(ad.add (i * 6)).block, (ad.add (i * 6)).off + 5, none⟩ = some (.int .u32 a) := hcell 5 _ rfl
    have i0 : (0 : Int) ≤ i := by omega
    have i1 : (i : Int) < n := by omega
    have i2 : (i : Int) < 200 := by omega
    have hwz : Hid (w.heap.size ≤ wr.heap.size) := HB.out.size
    obtain ⟨S, hS⟩ : ∃ S, wr.heap.size = S := ⟨_, rfl⟩
    have BX : Hid (Blk (wr.alloc (.cells #[.int .i64 kind, .int .u32 r.x, .int .i64 r.y, .int .u32 r.z, .int .i64 r.u, .int .u32 a] 49)) S 49 #[.int .i64 kind, .int .u32 r.x, .int .i64 r.y, .int .u32 r.z, .int .i64 r.u, .int .u32 a]) := by show Blk _ _ _ _; rw [← hS]; exact Blk.new _ _ _
    have HP1 := Lib.hid (HP.out.nx (al (rf wr) (.cells #[.int .i64 kind, .int .u32 r.x, .int .i64 r.y, .int .u32 r.z, .int .i64 r.u, .int .u32 a] 49)))
    have HB1 := Lib.hid (al HB.out (.cells #[.int .i64 kind, .int .u32 r.x, .int .i64 r.y, .int .u32 r.z, .int .i64 r.u, .int .u32 a] 49))
    have HSZ : Hid (w.heap.size ≤ S) := by show _ ≤ _; rw [← hS]; exact hwz.out
    have HSL : Hid (S < (wr.alloc (.cells #[.int .i64 kind, .int .u32 r.x, .int .i64 r.y, .int .u32 r.z, .int .i64 r.u, .int .u32 a] 49)).heap.size) := BX.out.lt
    clear hcell hr hlen hadB hru hau
    by_cases hk1 : kind = 1
    · have q1 : (kind == 1) = true := by simpa using hk1
      clear hk1
      have HOK := Lib.hid HP.out.ok
      obtain ⟨E, hE⟩ : ∃ E, (addL L r).2 = E := ⟨_, rfl⟩
      obtain ⟨L', hL'⟩ : ∃ L', (addL L r).1 = L' := ⟨_, rfl⟩
      have C2 : Hid (∀ w1, Bo w1 w.heap.size w.heap.size (w.heap.size + 1) L' L → Calls Try.prog 14 #[.pointer (some ⟨w.heap.size + 1, 0, none⟩), .agg #[.int .u32 r.x, .int .i64 r.y, .int .u32 r.z, .int .i64 r.u]] w1 fun e w' => e = .returned (.int .i64 E) ∧ Bo w' w.heap.size w.heap.size (w.heap.size + 1) L' L' ∧ Below w.heap.size w1 w' ∧ KB w1 w') := fun w1 p => by
        have h := p.radd HOK.out r HRU.out
        rw [hE, hL'] at h
        exact h
      have C1 : Hid (∀ w1, Bo w1 w.heap.size w.heap.size (w.heap.size + 1) L L → Calls Try.prog 9 #[.pointer (some ⟨w.heap.size, 0, none⟩), .agg #[.int .u32 r.x, .int .i64 r.y, .int .u32 r.z, .int .i64 r.u]] w1 fun e w' => e = .returned (.int .i64 E) ∧ Bo w' w.heap.size w.heap.size (w.heap.size + 1) L' L ∧ Below w.heap.size w1 w' ∧ KB w1 w') := fun w1 p => by
        have h := p.padd r HRU.out
        rw [hE, hL'] at h
        exact h
      clear heq hE hL'
      go_wp2
      generalize wr.alloc (.cells #[.int .i64 kind, .int .u32 r.x, .int .i64 r.y, .int .u32 r.z, .int .i64 r.u, .int .u32 a] 49) = W1 at BX HP1 HB1 HSL ⊢
      clear y0 y1 y2 y3 y4 y5
      have HPd := Lib.hid (HP1.out.nx (rf W1).drew)
      have BXd : Hid (Blk W1.drew S 49 #[.int .i64 kind, .int .u32 r.x, .int .i64 r.y, .int .u32 r.z, .int .i64 r.u, .int .u32 a]) := BX.out
      have S0 := box_at BXd.out
      have s1 := S0.1
      have s2 := S0.2.1
      have s3 := S0.2.2.1
      have s4 := S0.2.2.2
      clear S0
      go_region_with (first
        | (go_at_call 9; refine (C1.out _ HPd.out).mono ?_; rintro e w1 ⟨rfl, p1, b1, k1⟩
           have P1 := Lib.hid p1
           have HQ1 := Lib.hid b1
           have BX1 : Hid (Blk w1 S 49 #[.int .i64 kind, .int .u32 r.x, .int .i64 r.y, .int .u32 r.z, .int .i64 r.u, .int .u32 a]) := k1.blk_ BXd.out (by decide)
           have T0 := box_at BX1.out
           have t1 := T0.1
           have t2 := T0.2.1
           have t3 := T0.2.2.1
           have t4 := T0.2.2.2
           clear T0 p1 b1 k1)
        | (go_at_call 14; refine (C2.out _ P1.out).mono ?_; rintro e w2 ⟨rfl, p2, b2, k2⟩)
        | fail)
      all_goals
        have P2 := Lib.hid p2
        have HB2 : Hid (Below w.heap.size w w2) := HB1.out.trans (((rf W1).drew.mono (Nat.le_trans HSZ.out (Nat.le_of_lt HSL.out))).trans (HQ1.out.trans b2))
        clear p2 b2 k2 s1 s2 s3 s4 t1 t2 t3 t4
        have AL := Lib.hid P2.out.all
        go_wp2_with fail
        refine AL.out.mono ?_
        rintro e w3 ⟨v3, rfl, o3, b3⟩
        obtain ⟨v4, o4, hrow⟩ := P2.out.row
        have hr3 := hrow w3 b3
        have cR := hr3.1
        have hL64 := P2.out.ok.len
        have RK := Lib.hid (rowsK w3 o3 hr3.2 (Nat.le_trans hL64 (by decide)))
        obtain ⟨A3, c3, hv3, hc3⟩ := o3.form
        subst hv3
        obtain ⟨A4, c4, hv4, hc4⟩ := o4.form
        subst hv4
        obtain ⟨ln, hln⟩ : ∃ ln, L'.length = ln := ⟨_, rfl⟩
        have O3 := Lib.hid o3
        have HLN := Lib.hid hln
        rw [hln] at RK O3 cR hL64 hc3
        simp only [hln]
        have B3 := Lib.hid b3
        clear o3 o4 hrow hr3 b3 hln
        go_wp2_with fail
        refine RK.out.mono ?_
        rintro e w4 ⟨rfl, b4⟩
        have O4 : Hid (OwnL w4 w2.heap.size (.slice A3 ln c3) L') := O3.out.nx b4
        have B4 := Lib.hid (nx B3.out b4)
        clear b4 cR
        go_wp2
        go_loopw [13] (fun kv wr => ∃ (k : Nat) (M : List R4), kv = .int .i64 k ∧ k ≤ ln ∧ Hid (OwnL wr w2.heap.size (.slice A3 ln c3) M) ∧ Hid (M.length = ln) ∧ Hid (Below w2.heap.size w2 wr)) (fun kv _ => ln - (intOf kv).toNat)
        case atStart => exact ⟨0, L', rfl, Nat.zero_le _, O4.out, HLN.out, B4.out⟩
        case round =>
          obtain ⟨k, M, rfl, hk, OM, LM, BM⟩ := hrel
          by_cases hkn : k < ln
          · have k0 : (0 : Int) ≤ k := by omega
            have k1 : (k : Int) < ln := by omega
            obtain ⟨m, hm⟩ : ∃ m, M[k]? = some m := ⟨_, List.getElem?_eq_getElem (by rw [LM.out]; exact hkn)⟩
            obtain ⟨g, hA, hgb, x0, x1, x2, x3⟩ := OM.out.cells hm
            subst hA
            have f0 := OM.out.fro (k * 4)
            have f1 := OM.out.fro (k * 4 + 1)
            have f2 := OM.out.fro (k * 4 + 2)
            have f3 := OM.out.fro (k * 4 + 3)
            have OP : Hid (OwnL (put4 wr g k ⟨0, 0, 0, -9⟩) w2.heap.size (.slice (some ⟨g, 0, none⟩) ln c3) (M.set k ⟨0, 0, 0, -9⟩)) := OM.out.put hm ⟨0, 0, 0, -9⟩
            have BP : Hid (Below w2.heap.size w2 (put4 wr g k ⟨0, 0, 0, -9⟩)) := BM.out.trans ((Below.refl _ _).grown (put4_only (World.grownBy.refl _ _) k ⟨0, 0, 0, -9⟩) BM.out.size (fun j e => by injection e with e; subst e; exact hgb))
            have LP : Hid ((M.set k ⟨0, 0, 0, -9⟩).length = ln) := by show _ = _; rw [List.length_set]; exact LM.out
            clear hm hgb
            go_wp2
            go_roundw
            case rel => exact ⟨k + 1, _, by go_num, by omega, OP.out, LP.out, BP.out⟩
            case measure => simp [intOf]; omega
          · obtain rfl : k = ln := by omega
            have PE := Lib.hid (P2.out.nx BM.out)
            have BE := Lib.hid (nx HB2.out BM.out)
            go_wp2
            go_roundw
            case rel => exact ⟨i + 1, L', by go_num, by omega, by omega, PE.out, BE.out⟩
            case measure => simp [intOf]; omega
    by_cases hk2 : kind = 2
    · have q1 : (kind == 1) = false := by simpa using hk1
      have q2 : (kind == 2) = true := by simpa using hk2
      clear hk1 hk2
      have HOK := Lib.hid HP.out.ok
      obtain ⟨E, hE⟩ : ∃ E, (remL L r).2 = E := ⟨_, rfl⟩
      obtain ⟨L', hL'⟩ : ∃ L', (remL L r).1 = L' := ⟨_, rfl⟩
      have C2 : Hid (∀ w1, Bo w1 w.heap.size w.heap.size (w.heap.size + 1) L' L → Calls Try.prog 16 #[.pointer (some ⟨w.heap.size + 1, 0, none⟩), .agg #[.int .u32 r.x, .int .i64 r.y, .int .u32 r.z, .int .i64 r.u]] w1 fun e w' => e = .returned (.int .i64 E) ∧ Bo w' w.heap.size w.heap.size (w.heap.size + 1) L' L' ∧ Below w.heap.size w1 w' ∧ KB w1 w') := fun w1 p => by
        have h := p.rrem HOK.out r
        rw [hE, hL'] at h
        exact h
      have C1 : Hid (∀ w1, Bo w1 w.heap.size w.heap.size (w.heap.size + 1) L L → Calls Try.prog 15 #[.pointer (some ⟨w.heap.size, 0, none⟩), .agg #[.int .u32 r.x, .int .i64 r.y, .int .u32 r.z, .int .i64 r.u]] w1 fun e w' => e = .returned (.int .i64 E) ∧ Bo w' w.heap.size w.heap.size (w.heap.size + 1) L' L ∧ Below w.heap.size w1 w' ∧ KB w1 w') := fun w1 p => by
        have h := p.prem r HRU.out
        rw [hE, hL'] at h
        exact h
      clear heq hE hL'
      go_wp2
      generalize wr.alloc (.cells #[.int .i64 kind, .int .u32 r.x, .int .i64 r.y, .int .u32 r.z, .int .i64 r.u, .int .u32 a] 49) = W1 at BX HP1 HB1 HSL ⊢
      clear y0 y1 y2 y3 y4 y5
      have HPd := Lib.hid (HP1.out.nx (rf W1).drew)
      have BXd : Hid (Blk W1.drew S 49 #[.int .i64 kind, .int .u32 r.x, .int .i64 r.y, .int .u32 r.z, .int .i64 r.u, .int .u32 a]) := BX.out
      have S0 := box_at BXd.out
      have s1 := S0.1
      have s2 := S0.2.1
      have s3 := S0.2.2.1
      have s4 := S0.2.2.2
      clear S0
      go_region_with (first
        | (go_at_call 15; refine (C1.out _ HPd.out).mono ?_; rintro e w1 ⟨rfl, p1, b1, k1⟩
           have P1 := Lib.hid p1
           have HQ1 := Lib.hid b1
           have BX1 : Hid (Blk w1 S 49 #[.int .i64 kind, .int .u32 r.x, .int .i64 r.y, .int .u32 r.z, .int .i64 r.u, .int .u32 a]) := k1.blk_ BXd.out (by decide)
           have T0 := box_at BX1.out
           have t1 := T0.1
           have t2 := T0.2.1
           have t3 := T0.2.2.1
           have t4 := T0.2.2.2
           clear T0 p1 b1 k1)
        | (go_at_call 16; refine (C2.out _ P1.out).mono ?_; rintro e w2 ⟨rfl, p2, b2, k2⟩)
        | fail)
      all_goals
        have P2 := Lib.hid p2
        have HB2 : Hid (Below w.heap.size w w2) := HB1.out.trans (((rf W1).drew.mono (Nat.le_trans HSZ.out (Nat.le_of_lt HSL.out))).trans (HQ1.out.trans b2))
        clear p2 b2 k2 s1 s2 s3 s4 t1 t2 t3 t4
        have AL := Lib.hid P2.out.all
        go_wp2_with fail
        refine AL.out.mono ?_
        rintro e w3 ⟨v3, rfl, o3, b3⟩
        obtain ⟨v4, o4, hrow⟩ := P2.out.row
        have hr3 := hrow w3 b3
        have cR := hr3.1
        have hL64 := P2.out.ok.len
        have RK := Lib.hid (rowsK w3 o3 hr3.2 (Nat.le_trans hL64 (by decide)))
        obtain ⟨A3, c3, hv3, hc3⟩ := o3.form
        subst hv3
        obtain ⟨A4, c4, hv4, hc4⟩ := o4.form
        subst hv4
        obtain ⟨ln, hln⟩ : ∃ ln, L'.length = ln := ⟨_, rfl⟩
        have O3 := Lib.hid o3
        have HLN := Lib.hid hln
        rw [hln] at RK O3 cR hL64 hc3
        simp only [hln]
        have B3 := Lib.hid b3
        clear o3 o4 hrow hr3 b3 hln
        go_wp2_with fail
        refine RK.out.mono ?_
        rintro e w4 ⟨rfl, b4⟩
        have O4 : Hid (OwnL w4 w2.heap.size (.slice A3 ln c3) L') := O3.out.nx b4
        have B4 := Lib.hid (nx B3.out b4)
        clear b4 cR
        go_wp2
        go_loopw [13] (fun kv wr => ∃ (k : Nat) (M : List R4), kv = .int .i64 k ∧ k ≤ ln ∧ Hid (OwnL wr w2.heap.size (.slice A3 ln c3) M) ∧ Hid (M.length = ln) ∧ Hid (Below w2.heap.size w2 wr)) (fun kv _ => ln - (intOf kv).toNat)
        case atStart => exact ⟨0, L', rfl, Nat.zero_le _, O4.out, HLN.out, B4.out⟩
        case round =>
          obtain ⟨k, M, rfl, hk, OM, LM, BM⟩ := hrel
          by_cases hkn : k < ln
          · have k0 : (0 : Int) ≤ k := by omega
            have k1 : (k : Int) < ln := by omega
            obtain ⟨m, hm⟩ : ∃ m, M[k]? = some m := ⟨_, List.getElem?_eq_getElem (by rw [LM.out]; exact hkn)⟩
            obtain ⟨g, hA, hgb, x0, x1, x2, x3⟩ := OM.out.cells hm
            subst hA
            have f0 := OM.out.fro (k * 4)
            have f1 := OM.out.fro (k * 4 + 1)
            have f2 := OM.out.fro (k * 4 + 2)
            have f3 := OM.out.fro (k * 4 + 3)
            have OP : Hid (OwnL (put4 wr g k ⟨0, 0, 0, -9⟩) w2.heap.size (.slice (some ⟨g, 0, none⟩) ln c3) (M.set k ⟨0, 0, 0, -9⟩)) := OM.out.put hm ⟨0, 0, 0, -9⟩
            have BP : Hid (Below w2.heap.size w2 (put4 wr g k ⟨0, 0, 0, -9⟩)) := BM.out.trans ((Below.refl _ _).grown (put4_only (World.grownBy.refl _ _) k ⟨0, 0, 0, -9⟩) BM.out.size (fun j e => by injection e with e; subst e; exact hgb))
            have LP : Hid ((M.set k ⟨0, 0, 0, -9⟩).length = ln) := by show _ = _; rw [List.length_set]; exact LM.out
            clear hm hgb
            go_wp2
            go_roundw
            case rel => exact ⟨k + 1, _, by go_num, by omega, OP.out, LP.out, BP.out⟩
            case measure => simp [intOf]; omega
          · obtain rfl : k = ln := by omega
            have PE := Lib.hid (P2.out.nx BM.out)
            have BE := Lib.hid (nx HB2.out BM.out)
            go_wp2
            go_roundw
            case rel => exact ⟨i + 1, L', by go_num, by omega, by omega, PE.out, BE.out⟩
            case measure => simp [intOf]; omega
    · have q1 : (kind == 1) = false := by simpa using hk1
      have q2 : (kind == 2) = false := by simpa using hk2
      clear hk1 hk2
      obtain ⟨fv, hfv⟩ : ∃ v, findL L a = v := ⟨_, rfl⟩
      obtain ⟨q, E⟩ := fv
      have HOK := Lib.hid HP.out.ok
      have C1 := Lib.hid (HP1.out.pfind a HAU.out)
      rw [hfv] at C1
      unfold R4.cs at C1
      have C2 : Hid (∀ w1, Bo w1 w.heap.size w.heap.size (w.heap.size + 1) L L → Calls Try.prog 17 #[.pointer (some ⟨w.heap.size + 1, 0, none⟩), .int .u32 a] w1 fun e w' => e = .returned (.tuple #[.agg #[.int .u32 q.x, .int .i64 q.y, .int .u32 q.z, .int .i64 q.u], .int .i64 E]) ∧ Below w1.heap.size w1 w') := fun w1 p => by
        have h := p.rfind HOK.out a HAU.out
        rw [hfv] at h
        exact h
      have BXa : Hid (∀ w1, Below (wr.alloc (.cells #[.int .i64 kind, .int .u32 r.x, .int .i64 r.y, .int .u32 r.z, .int .i64 r.u, .int .u32 a] 49)).heap.size (wr.alloc (.cells #[.int .i64 kind, .int .u32 r.x, .int .i64 r.y, .int .u32 r.z, .int .i64 r.u, .int .u32 a] 49)) w1 → w1.cell? ⟨S, 5, none⟩ = some (.int .u32 a)) := fun w1 k => (BX.out.nx k).cell 5
      clear hfv
      go_wp2_with fail
      generalize wr.alloc (.cells #[.int .i64 kind, .int .u32 r.x, .int .i64 r.y, .int .u32 r.z, .int .i64 r.u, .int .u32 a] 49) = W1 at BX HP1 HB1 HSL C1 BXa ⊢
      clear y0 y1 y2 y3 y4 y5
      refine C1.out.mono ?_
      rintro e w1 ⟨rfl, b1⟩
      have P1 := Lib.hid ((HP1.out.nx b1).nx (al (rf w1) (.cells #[.int .u32 q.x, .int .i64 q.y, .int .u32 q.z, .int .i64 q.u] 36)))
      have N1 := Lib.hid (Blk.new w1 36 #[.int .u32 q.x, .int .i64 q.y, .int .u32 q.z, .int .i64 q.u])
      have HQ1 := Lib.hid (al (nx HB1.out b1) (.cells #[.int .u32 q.x, .int .i64 q.y, .int .u32 q.z, .int .i64 q.u] 36))
      have s5 : (w1.alloc (.cells #[.int .u32 q.x, .int .i64 q.y, .int .u32 q.z, .int .i64 q.u] 36)).cell? ⟨S, 5, none⟩ = some (.int .u32 a) := BXa.out _ (al b1 _)
      clear b1
      go_wp2_with fail
      refine (C2.out _ P1.out).mono ?_
      rintro e w1b ⟨rfl, b2⟩
      have N1b := N1.out.nx b2
      have M1b := N1b.alloc (.cells #[.int .u32 q.x, .int .i64 q.y, .int .u32 q.z, .int .i64 q.u] 36)
      have P2 := Lib.hid ((P1.out.nx b2).nx (al (rf w1b) (.cells #[.int .u32 q.x, .int .i64 q.y, .int .u32 q.z, .int .i64 q.u] 36)))
      have HB2 := Lib.hid (al (nx HQ1.out b2) (.cells #[.int .u32 q.x, .int .i64 q.y, .int .u32 q.z, .int .i64 q.u] 36))
      have n0 := M1b.cell 0
      have n1 := M1b.cell 1
      have n2 := M1b.cell 2
      have n3 := M1b.cell 3
      simp only [List.getElem?_toArray, List.getElem?_cons_zero, List.getElem?_cons_succ] at n0 n1 n2 n3
      have K1b := Blk.new w1b 36 #[.int .u32 q.x, .int .i64 q.y, .int .u32 q.z, .int .i64 q.u]
      have m0 := K1b.cell 0
      have m1 := K1b.cell 1
      have m2 := K1b.cell 2
      have m3 := K1b.cell 3
      simp only [List.getElem?_toArray, List.getElem?_cons_zero, List.getElem?_cons_succ] at m0 m1 m2 m3
      obtain ⟨L', hL'⟩ : ∃ L', L' = L := ⟨_, rfl⟩
      clear b2 N1b M1b K1b s5
      generalize hw2 : w1b.alloc (.cells #[.int .u32 q.x, .int .i64 q.y, .int .u32 q.z, .int .i64 q.u] 36) = w2 at P2 HB2 n0 n1 n2 n3 m0 m1 m2 m3
      subst hL'
      have AL := Lib.hid P2.out.all
      go_wp2_with fail
      refine AL.out.mono ?_
      rintro e w3 ⟨v3, rfl, o3, b3⟩
      obtain ⟨v4, o4, hrow⟩ := P2.out.row
      have hr3 := hrow w3 b3
      have cR := hr3.1
      have hL64 := P2.out.ok.len
      have RK := Lib.hid (rowsK w3 o3 hr3.2 (Nat.le_trans hL64 (by decide)))
      obtain ⟨A3, c3, hv3, hc3⟩ := o3.form
      subst hv3
      obtain ⟨A4, c4, hv4, hc4⟩ := o4.form
      subst hv4
      obtain ⟨ln, hln⟩ : ∃ ln, L'.length = ln := ⟨_, rfl⟩
      have O3 := Lib.hid o3
      have HLN := Lib.hid hln
      rw [hln] at RK O3 cR hL64 hc3
      simp only [hln]
      have B3 := Lib.hid b3
      clear o3 o4 hrow hr3 b3 hln
      go_wp2_with fail
      refine RK.out.mono ?_
      rintro e w4 ⟨rfl, b4⟩
      have O4 : Hid (OwnL w4 w2.heap.size (.slice A3 ln c3) L') := O3.out.nx b4
      have B4 := Lib.hid (nx B3.out b4)
      clear b4 cR
      go_wp2
      go_loopw [13] (fun kv wr => ∃ (k : Nat) (M : List R4), kv = .int .i64 k ∧ k ≤ ln ∧ Hid (OwnL wr w2.heap.size (.slice A3 ln c3) M) ∧ Hid (M.length = ln) ∧ Hid (Below w2.heap.size w2 wr)) (fun kv _ => ln - (intOf kv).toNat)
      case atStart => exact ⟨0, L', rfl, Nat.zero_le _, O4.out, HLN.out, B4.out⟩
      case round =>
        obtain ⟨k, M, rfl, hk, OM, LM, BM⟩ := hrel
        by_cases hkn : k < ln
        · have k0 : (0 : Int) ≤ k := by omega
          have k1 : (k : Int) < ln := by omega
          obtain ⟨m, hm⟩ : ∃ m, M[k]? = some m := ⟨_, List.getElem?_eq_getElem (by rw [LM.out]; exact hkn)⟩
          obtain ⟨g, hA, hgb, x0, x1, x2, x3⟩ := OM.out.cells hm
          subst hA
          have f0 := OM.out.fro (k * 4)
          have f1 := OM.out.fro (k * 4 + 1)
          have f2 := OM.out.fro (k * 4 + 2)
          have f3 := OM.out.fro (k * 4 + 3)
          have OP : Hid (OwnL (put4 wr g k ⟨0, 0, 0, -9⟩) w2.heap.size (.slice (some ⟨g, 0, none⟩) ln c3) (M.set k ⟨0, 0, 0, -9⟩)) := OM.out.put hm ⟨0, 0, 0, -9⟩
          have BP : Hid (Below w2.heap.size w2 (put4 wr g k ⟨0, 0, 0, -9⟩)) := BM.out.trans ((Below.refl _ _).grown (put4_only (World.grownBy.refl _ _) k ⟨0, 0, 0, -9⟩) BM.out.size (fun j e => by injection e with e; subst e; exact hgb))
          have LP : Hid ((M.set k ⟨0, 0, 0, -9⟩).length = ln) := by show _ = _; rw [List.length_set]; exact LM.out
          clear hm hgb
          go_wp2
          go_roundw
          case rel => exact ⟨k + 1, _, by go_num, by omega, OP.out, LP.out, BP.out⟩
          case measure => simp [intOf]; omega
        · obtain rfl : k = ln := by omega
          have PE := Lib.hid (P2.out.nx BM.out)
          have BE := Lib.hid (nx HB2.out BM.out)
          go_wp2
          go_roundw
          case rel => exact ⟨i + 1, L', by go_num, by omega, by omega, PE.out, BE.out⟩
          case measure => simp [intOf]; omega
set_option maxRecDepth 100000 in
theorem routePlays_lifted (os : Os) (started : os.Started) (H : Type) (enc : TypeId × Value → H) :
    ReturnsInHanded {} Try.checked os 5 .any (Rows.routePlaysSpec.pre6 enc Try.prog Try.f5 Rows.routePlaysRow.domain false) (Rows.routePlaysSpec.post enc Try.prog Try.f5 false true false false) :=
  law_lift started (by kernel_rfl) Try.func5
    (ChangeSpec.witness6 (enc := enc) (C := Try.checked) false ⟨#[], #[.slice none 0 0], []⟩ 8 (by kernel_rfl) (by kernel_rfl) (by kernel_rfl) (by kernel_rfl))
    rfl rfl Try.underlying4 (by kernel_rfl) (fun ds h => match ds, h with | [_], _ => rfl)
    (fun W base args ds p hval hA hsz => by
      rw [Try.params5] at hA hval
      have hsz' := hsz
      rw [Try.params5] at hsz'
      obtain ⟨v0, d0, rfl, rfl, h0⟩ := trodAll_one hA
      obtain ⟨A, n, c, l, rfl, h1, h2, h3, h4⟩ := open_stq (hval 0 44 v0 rfl rfl) h0
      exact routePlays_walk A n c l W h1 h2 h3 h4)
theorem routePlays_holds : Rows.RoutePlaysSaid :=
  OpenClaim.holds_of_wide 5 Try.f5 rfl rfl rfl rfl rfl rfl rfl ⟨rfl, rfl, rfl, rfl, rfl⟩ rfl rfl rfl rfl rfl (by kernel_rfl) Try.func5 (by kernel_rfl)
    (of_decide_eq_true (by kernel_rfl)) (by unfold Func.isWrapper; rw [if_neg (of_decide_eq_false (by kernel_rfl))]; exact ⟨rfl, rfl⟩)
    (fun os started H enc _ => routePlays_lifted os started H enc)

end Go.Proofs.Ytmboadgmhafedaa
