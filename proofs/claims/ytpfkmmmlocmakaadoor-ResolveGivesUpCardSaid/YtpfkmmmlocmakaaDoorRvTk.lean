/-
  Resolve: Tick of a resolver that keeps nothing and has one question.
-/
import Derived.Test.YtpfkmmmlocmakaaDoorRvV
set_option linter.unusedVariables false
namespace Go.Proofs.YtpfkmmmlocmakaaDoor
open Go.RowKit Go.Maps

theorem cloneEnil (w : World) (n c : Nat) : Calls Tryd.prog 21 #[.slice none n c] w fun e w' => e = .returned (.slice none 0 0) ∧ w' = w := by
  have Q : ∀ (w : World) (a : Option Addr) (n c : Nat), (binOp .eql 62 (.slice a n c) (.slice none 0 0)).run Tryd.prog w = .ok (.bool a.isNone) w := fun w a n c => Lib.run_eql_slice_nil w _ _ a n c 0 0 Tryd.underlying62
  go_enter Tryd.func21, Tryd.ntmps21
  go_wp2
  go_ret
  exact ⟨rfl, rfl⟩
set_option maxRecDepth 100000 in
set_option maxHeartbeats 1600000 in
theorem tickIdle (w : World) (B rb g : Nat) (z : Rz) (q : Qn) (now draw : Int) (hR : IsRv w B rb z) (hK : z.age = .slice none 0 0) (hqs : z.qs = [(g, q)]) (hm : MaxL w) (hB : B ≤ w.heap.size) (hB0 : 0 < B) (hnx : now < q.next) :
    Calls Tryd.prog 12 #[.pointer (some ⟨rb, 0, none⟩), .int .i64 now, .int .i64 draw] w fun e w' => HandP w B rb z [] [] e w' := by
  have r5 : w.cell? ⟨rb, 5, none⟩ = some (.slice none 0 0) := by rw [← hK]; exact hR.b.cell 5
  have hw0 : 0 < w.heap.size := by omega
  have HR := Lib.hid hR
  have HM := Lib.hid hm
  have HQS := Lib.hid hqs
  have b1 : Below w.heap.size w (w.alloc (.cells #[.pointer (some ⟨rb, 0, none⟩), .int .i64 now, .int .i64 draw, .slice none 0 0, .slice none 0 0] 71)) := al (rf w) _
  have B1 := Lib.hid b1
  have WB1 := Lib.hid (Blk.new w 71 #[.pointer (some ⟨rb, 0, none⟩), .int .i64 now, .int .i64 draw, .slice none 0 0, .slice none 0 0])
  clear hR hK hm hqs b1
  go_enter Tryd.func12, Tryd.ntmps12
  go_wp2_with fail
  refine (cloneEnil w 0 0).mono ?_
  rintro e w1 ⟨rfl, hw1⟩
  have hw2 := hw1.symm
  subst hw2
  clear hw1
  obtain ⟨wz, hwz⟩ : ∃ wz, wz = w := ⟨_, rfl⟩
  have HWZ := Lib.hid hwz
  clear hwz r5
  go_wp2
  go_loopw [21] (fun kv ws => kv = .int .i64 0 ∧ Hid (ws = wz)) (fun _ _ => 0)
  case atStart => exact ⟨rfl, HWZ.out.symm⟩
  case round =>
    obtain ⟨rfl, HW⟩ := hrel
    have ew : w = wr := (HW.out.trans HWZ.out).symm
    subst ew
    have R1 := Lib.hid (HR.out.nx B1.out)
    have r3 : (w.alloc (.cells #[.pointer (some ⟨rb, 0, none⟩), .int .i64 now, .int .i64 draw, .slice none 0 0, .slice none 0 0] 71)).cell? ⟨rb, 3, none⟩ = some (.slice z.QA 1 z.qc) := by
      have h := R1.out.b.cell 3
      simp only [Rz.cs, List.getElem?_toArray, List.getElem?_cons_zero, List.getElem?_cons_succ] at h
      rw [h, HQS.out]; rfl
    have hrd := Reads.of_own R1.out.qs
    rw [HQS.out] at hrd
    have hqa : z.QA = none → (1 : Nat) = 0 := fun h => by
      obtain ⟨ad, e, _⟩ := hrd.2 (by simp)
      rw [h] at e; cases e
    have HCQ := Lib.hid (cloneQu z.QA 1 z.qc [ptr g] _ hrd (by intro u hu; simp only [List.mem_singleton] at hu; rw [hu]; rfl) (by omega) hqa)
    clear hrd hqa
    go_wp2_with fail
    refine HCQ.out.mono ?_
    rintro e w2 ⟨A2, c2, rfl, own2, b2⟩
    have hsA : (w.alloc (.cells #[.pointer (some ⟨rb, 0, none⟩), .int .i64 now, .int .i64 draw, .slice none 0 0, .slice none 0 0] 71)).heap.size = w.heap.size + 1 := by simp
    have B2 := Lib.hid (nx B1.out b2)
    have R2 := Lib.hid (R1.out.nx b2)
    have W2 : Hid (IsWk w2 w.heap.size w.heap.size rb now draw [] none 0 [] none 0) := ⟨WB1.out.nx b2, Nat.le_refl _, World.ownsRow_nil _ _ _ _, World.ownsRow_nil _ _ _ _, by simp, by simp⟩
    have M2 := Lib.hid (HM.out.below B2.out hw0)
    obtain ⟨gr, cap, hv, _, _, _, _, cur, hcur, _, htk⟩ := own_form own2 (by omega)
    injection hv with hv1 _ hv3
    subst hv1 hv3
    have cr : w2.cell? ⟨gr, 0, none⟩ = some (.pointer (some ⟨g, 0, none⟩)) := by
      rw [hcur.cell]
      have h := congrArg (fun l : List Value => l[0]?) htk
      simp only [List.getElem?_take_of_lt (show 0 < 1 by decide), Array.getElem?_toList] at h
      exact h
    have hz2 := B2.out.size
    have qn : w2.cell? ⟨g, 6, none⟩ = some (.int .i64 q.next) := (R2.out.q (g, q) (by rw [HQS.out]; simp)).1.cell 6
    obtain ⟨wy, hwy⟩ : ∃ wy, wy = w2 := ⟨_, rfl⟩
    have HWY := Lib.hid hwy
    clear own2 b2 htk hcur r3 hsA hwy HCQ
    have hng : ¬ q.next ≤ now := by omega
    go_wp2
    go_loopw [46] (fun kv ws => (kv = .int .i64 0 ∧ Hid (ws = wy)) ∨ (kv = .int .i64 1 ∧ Hid (∃ (FA DA : Option Addr) (fc dc : Nat), IsRv ws B rb z ∧ IsWk ws w.heap.size w.heap.size rb now draw [] FA fc [] DA dc ∧ KeepT w.heap.size [68, 64, 66] w2 ws ∧ Below B w2 ws))) (fun kv _ => 1 - (intOf kv).toNat)
    case atStart => exact .inl ⟨rfl, HWY.out.symm⟩
    case round =>
      rcases hrel with ⟨rfl, HW2⟩ | ⟨rfl, HD⟩
      · have ew2 : wr = w2 := HW2.out.trans HWY.out
        subst ew2
        go_wp2
        go_roundw
        case rel => exact .inr ⟨by go_num, none, none, 0, 0, R2.out, W2.out, KeepT.refl, Below.refl _ _⟩
        case measure => simp [intOf]
      · obtain ⟨FA9, DA9, fc9, dc9, Rd, Wd, Kd, Bd⟩ := HD.out
        have y3 := Wd.b.cell 3
        have y4 := Wd.b.cell 4
        simp only [List.getElem?_toArray, List.getElem?_cons_zero, List.getElem?_cons_succ] at y3 y4
        have HD2 := Lib.hid HD.out
        have HWd := Lib.hid Wd
        have HRd := Lib.hid Rd
        have HKd := Lib.hid Kd
        have HBd := Lib.hid Bd
        have hzd := Bd.size
        clear HD Wd Rd Kd Bd cr qn
        go_wp2
        go_quiet (fail)
        go_wp2
        go_ret2
        have kk : ∀ nq, KeepT w.heap.size [68, 64, 66] w (wr.drewN nq) := fun nq => ((KeepT.of_below B2.out (Nat.le_refl _)).trans HKd.out).trans (KeepT.of_below (dn (rf wr) nq) (by have := HBd.out.size; omega))
        have kb := fun nq => ((B2.out.mono hB).trans HBd.out).trans ((dn (rf wr) nq).mono (by have := HBd.out.size; omega))
        exact ⟨_, _, _, _, rfl, HRd.out.nx (dn (rf wr) _), own_nx HWd.out.f (dn (rf wr) _), own_nx HWd.out.d (dn (rf wr) _), fun x hx => own_nx (HWd.out.fd x hx) (dn (rf wr) _), fun x hx => own_nx (HWd.out.dd x hx) (dn (rf wr) _), kk _, kb _⟩
set_option maxRecDepth 100000 in
set_option maxHeartbeats 1600000 in
theorem tickAsks (w : World) (B rb g : Nat) (z : Rz) (q : Qn) (now draw : Int) (hR : IsRv w B rb z) (hK : z.age = .slice none 0 0) (hqs : z.qs = [(g, q)]) (hm : MaxL w) (hB : B ≤ w.heap.size) (hB0 : 0 < B) (hnx : q.next ≤ now) (s : Int) (hs : s = (q.server + 1) % z.sv.length) (hn : isN q.name.data.toList = true) (hns : q.name.size ≤ 3000) (s0 : 0 ≤ q.server) (s1 : q.server < z.sv.length) (hsv : z.sv.length ≤ 3) (n0 : 0 ≤ now) (n1 : now ≤ 1152921504606846976) (a0 : 0 ≤ q.asked) (a1 : q.asked < 4) (e0 : 0 ≤ z.sent) (e1 : z.sent ≤ 1152921504606846976) :
    Calls Tryd.prog 12 #[.pointer (some ⟨rb, 0, none⟩), .int .i64 now, .int .i64 draw] w fun e w' => ∃ (A : Option Addr) (k : Nat), HandP w B rb { z with sent := z.sent + 1, qs := [(g, (q.srv s).ask (idV draw z.sent) now)] } [] [⟨z.port, svAt z s, askB (idV draw z.sent) q.name, A, k⟩] e w' := by
  have r5 : w.cell? ⟨rb, 5, none⟩ = some (.slice none 0 0) := by rw [← hK]; exact hR.b.cell 5
  have hw0 : 0 < w.heap.size := by omega
  have HR := Lib.hid hR
  have HM := Lib.hid hm
  have HQS := Lib.hid hqs
  have b1 : Below w.heap.size w (w.alloc (.cells #[.pointer (some ⟨rb, 0, none⟩), .int .i64 now, .int .i64 draw, .slice none 0 0, .slice none 0 0] 71)) := al (rf w) _
  have B1 := Lib.hid b1
  have WB1 := Lib.hid (Blk.new w 71 #[.pointer (some ⟨rb, 0, none⟩), .int .i64 now, .int .i64 draw, .slice none 0 0, .slice none 0 0])
  clear hR hK hm hqs b1
  go_enter Tryd.func12, Tryd.ntmps12
  go_wp2_with fail
  refine (cloneEnil w 0 0).mono ?_
  rintro e w1 ⟨rfl, hw1⟩
  have hw2 := hw1.symm
  subst hw2
  clear hw1
  obtain ⟨wz, hwz⟩ : ∃ wz, wz = w := ⟨_, rfl⟩
  have HWZ := Lib.hid hwz
  clear hwz r5
  go_wp2
  go_loopw [21] (fun kv ws => kv = .int .i64 0 ∧ Hid (ws = wz)) (fun _ _ => 0)
  case atStart => exact ⟨rfl, HWZ.out.symm⟩
  case round =>
    obtain ⟨rfl, HW⟩ := hrel
    have ew : w = wr := (HW.out.trans HWZ.out).symm
    subst ew
    have R1 := Lib.hid (HR.out.nx B1.out)
    have r3 : (w.alloc (.cells #[.pointer (some ⟨rb, 0, none⟩), .int .i64 now, .int .i64 draw, .slice none 0 0, .slice none 0 0] 71)).cell? ⟨rb, 3, none⟩ = some (.slice z.QA 1 z.qc) := by
      have h := R1.out.b.cell 3
      simp only [Rz.cs, List.getElem?_toArray, List.getElem?_cons_zero, List.getElem?_cons_succ] at h
      rw [h, HQS.out]; rfl
    have hrd := Reads.of_own R1.out.qs
    rw [HQS.out] at hrd
    have hqa : z.QA = none → (1 : Nat) = 0 := fun h => by
      obtain ⟨ad, e, _⟩ := hrd.2 (by simp)
      rw [h] at e; cases e
    have HCQ := Lib.hid (cloneQu z.QA 1 z.qc [ptr g] _ hrd (by intro u hu; simp only [List.mem_singleton] at hu; rw [hu]; rfl) (by omega) hqa)
    clear hrd hqa
    go_wp2_with fail
    refine HCQ.out.mono ?_
    rintro e w2 ⟨A2, c2, rfl, own2, b2⟩
    have hsA : (w.alloc (.cells #[.pointer (some ⟨rb, 0, none⟩), .int .i64 now, .int .i64 draw, .slice none 0 0, .slice none 0 0] 71)).heap.size = w.heap.size + 1 := by simp
    have B2 := Lib.hid (nx B1.out b2)
    have R2 := Lib.hid (R1.out.nx b2)
    have W2 : Hid (IsWk w2 w.heap.size w.heap.size rb now draw [] none 0 [] none 0) := ⟨WB1.out.nx b2, Nat.le_refl _, World.ownsRow_nil _ _ _ _, World.ownsRow_nil _ _ _ _, by simp, by simp⟩
    have M2 := Lib.hid (HM.out.below B2.out hw0)
    obtain ⟨gr, cap, hv, _, _, _, _, cur, hcur, _, htk⟩ := own_form own2 (by omega)
    injection hv with hv1 _ hv3
    subst hv1 hv3
    have cr : w2.cell? ⟨gr, 0, none⟩ = some (.pointer (some ⟨g, 0, none⟩)) := by
      rw [hcur.cell]
      have h := congrArg (fun l : List Value => l[0]?) htk
      simp only [List.getElem?_take_of_lt (show 0 < 1 by decide), Array.getElem?_toList] at h
      exact h
    have hz2 := B2.out.size
    have qn : w2.cell? ⟨g, 6, none⟩ = some (.int .i64 q.next) := (R2.out.q (g, q) (by rw [HQS.out]; simp)).1.cell 6
    obtain ⟨wy, hwy⟩ : ∃ wy, wy = w2 := ⟨_, rfl⟩
    have HWY := Lib.hid hwy
    clear own2 b2 htk hcur r3 hsA hwy HCQ
    have HOV := Lib.hid (overA w2 B w.heap.size w.heap.size rb g z now draw [] none 0 [] none 0 q s R2.out W2.out HQS.out M2.out hs hn hns s0 s1 hsv n0 n1 a0 a1 e0 e1 (by simp) hB hz2)
    clear hs
    go_wp2
    go_loopw [46] (fun kv ws => (kv = .int .i64 0 ∧ Hid (ws = wy)) ∨ (kv = .int .i64 1 ∧ Hid (∃ (FA DA : Option Addr) (fc dc : Nat) (A : Option Addr) (k : Nat), IsRv ws B rb { z with sent := z.sent + 1, qs := [(g, (q.srv s).ask (idV draw z.sent) now)] } ∧ IsWk ws w.heap.size w.heap.size rb now draw [] FA fc [⟨z.port, svAt z s, askB (idV draw z.sent) q.name, A, k⟩] DA dc ∧ KeepT w.heap.size [68, 64, 66] w2 ws ∧ Below B w2 ws))) (fun kv _ => 1 - (intOf kv).toNat)
    case atStart => exact .inl ⟨rfl, HWY.out.symm⟩
    case round =>
      rcases hrel with ⟨rfl, HW2⟩ | ⟨rfl, HD⟩
      · have ew2 : wr = w2 := HW2.out.trans HWY.out
        subst ew2
        go_wp2_with fail
        refine HOV.out.mono ?_
        rintro e w5 ⟨rfl, A5, k5, D5, d5, R5, W5, K5, N5, B5⟩
        have HD5 : Hid (∃ (FA DA : Option Addr) (fc dc : Nat) (A : Option Addr) (k : Nat), IsRv w5 B rb { z with sent := z.sent + 1, qs := [(g, (q.srv s).ask (idV draw z.sent) now)] } ∧ IsWk w5 w.heap.size w.heap.size rb now draw [] FA fc [⟨z.port, svAt z s, askB (idV draw z.sent) q.name, A, k⟩] DA dc ∧ KeepT w.heap.size [68, 64, 66] wr w5 ∧ Below B wr w5) := ⟨none, D5, 0, d5, A5, k5, R5, W5, N5.mono (by decide), B5⟩
        clear R5 W5 K5 N5 B5 HOV
        go_wp2
        go_roundw
        case rel => exact .inr ⟨by go_num, HD5⟩
        case measure => simp [intOf]
      · obtain ⟨FA9, DA9, fc9, dc9, A9, k9, Rd, Wd, Kd, Bd⟩ := HD.out
        have y3 := Wd.b.cell 3
        have y4 := Wd.b.cell 4
        simp only [List.getElem?_toArray, List.getElem?_cons_zero, List.getElem?_cons_succ] at y3 y4
        have HD2 := Lib.hid HD.out
        have HWd := Lib.hid Wd
        have HRd := Lib.hid Rd
        have HKd := Lib.hid Kd
        have HBd := Lib.hid Bd
        have hzd := Bd.size
        clear HD Wd Rd Kd Bd cr qn
        go_wp2
        go_quiet (fail)
        go_wp2
        go_ret2
        have kk : ∀ nq, KeepT w.heap.size [68, 64, 66] w (wr.drewN nq) := fun nq => ((KeepT.of_below B2.out (Nat.le_refl _)).trans HKd.out).trans (KeepT.of_below (dn (rf wr) nq) (by have := HBd.out.size; omega))
        have kb := fun nq => ((B2.out.mono hB).trans HBd.out).trans ((dn (rf wr) nq).mono (by have := HBd.out.size; omega))
        exact ⟨A9, k9, _, _, _, _, rfl, HRd.out.nx (dn (rf wr) _), own_nx HWd.out.f (dn (rf wr) _), own_nx HWd.out.d (dn (rf wr) _), fun x hx => own_nx (HWd.out.fd x hx) (dn (rf wr) _), fun x hx => own_nx (HWd.out.dd x hx) (dn (rf wr) _), kk _, kb _⟩
set_option maxRecDepth 100000 in
set_option maxHeartbeats 1600000 in
theorem tickEnds (w : World) (B rb g : Nat) (z : Rz) (q : Qn) (now draw : Int) (hR : IsRv w B rb z) (hK : z.age = .slice none 0 0) (hqs : z.qs = [(g, q)]) (hm : MaxL w) (hB : B ≤ w.heap.size) (hB0 : 0 < B) (hnx : q.next ≤ now) (a1 : 4 ≤ q.asked) :
    Calls Tryd.prog 12 #[.pointer (some ⟨rb, 0, none⟩), .int .i64 now, .int .i64 draw] w fun e w' => ∃ (QA : Option Addr) (qc : Nat), HandP w B rb { z with qs := [], QA := QA, qc := qc } [⟨q.first, 30, [], none, 0⟩] [] e w' := by
  have r5 : w.cell? ⟨rb, 5, none⟩ = some (.slice none 0 0) := by rw [← hK]; exact hR.b.cell 5
  have hw0 : 0 < w.heap.size := by omega
  have HR := Lib.hid hR
  have HM := Lib.hid hm
  have HQS := Lib.hid hqs
  have b1 : Below w.heap.size w (w.alloc (.cells #[.pointer (some ⟨rb, 0, none⟩), .int .i64 now, .int .i64 draw, .slice none 0 0, .slice none 0 0] 71)) := al (rf w) _
  have B1 := Lib.hid b1
  have WB1 := Lib.hid (Blk.new w 71 #[.pointer (some ⟨rb, 0, none⟩), .int .i64 now, .int .i64 draw, .slice none 0 0, .slice none 0 0])
  clear hR hK hm hqs b1
  go_enter Tryd.func12, Tryd.ntmps12
  go_wp2_with fail
  refine (cloneEnil w 0 0).mono ?_
  rintro e w1 ⟨rfl, hw1⟩
  have hw2 := hw1.symm
  subst hw2
  clear hw1
  obtain ⟨wz, hwz⟩ : ∃ wz, wz = w := ⟨_, rfl⟩
  have HWZ := Lib.hid hwz
  clear hwz r5
  go_wp2
  go_loopw [21] (fun kv ws => kv = .int .i64 0 ∧ Hid (ws = wz)) (fun _ _ => 0)
  case atStart => exact ⟨rfl, HWZ.out.symm⟩
  case round =>
    obtain ⟨rfl, HW⟩ := hrel
    have ew : w = wr := (HW.out.trans HWZ.out).symm
    subst ew
    have R1 := Lib.hid (HR.out.nx B1.out)
    have r3 : (w.alloc (.cells #[.pointer (some ⟨rb, 0, none⟩), .int .i64 now, .int .i64 draw, .slice none 0 0, .slice none 0 0] 71)).cell? ⟨rb, 3, none⟩ = some (.slice z.QA 1 z.qc) := by
      have h := R1.out.b.cell 3
      simp only [Rz.cs, List.getElem?_toArray, List.getElem?_cons_zero, List.getElem?_cons_succ] at h
      rw [h, HQS.out]; rfl
    have hrd := Reads.of_own R1.out.qs
    rw [HQS.out] at hrd
    have hqa : z.QA = none → (1 : Nat) = 0 := fun h => by
      obtain ⟨ad, e, _⟩ := hrd.2 (by simp)
      rw [h] at e; cases e
    have HCQ := Lib.hid (cloneQu z.QA 1 z.qc [ptr g] _ hrd (by intro u hu; simp only [List.mem_singleton] at hu; rw [hu]; rfl) (by omega) hqa)
    clear hrd hqa
    go_wp2_with fail
    refine HCQ.out.mono ?_
    rintro e w2 ⟨A2, c2, rfl, own2, b2⟩
    have hsA : (w.alloc (.cells #[.pointer (some ⟨rb, 0, none⟩), .int .i64 now, .int .i64 draw, .slice none 0 0, .slice none 0 0] 71)).heap.size = w.heap.size + 1 := by simp
    have B2 := Lib.hid (nx B1.out b2)
    have R2 := Lib.hid (R1.out.nx b2)
    have W2 : Hid (IsWk w2 w.heap.size w.heap.size rb now draw [] none 0 [] none 0) := ⟨WB1.out.nx b2, Nat.le_refl _, World.ownsRow_nil _ _ _ _, World.ownsRow_nil _ _ _ _, by simp, by simp⟩
    have M2 := Lib.hid (HM.out.below B2.out hw0)
    obtain ⟨gr, cap, hv, _, _, _, _, cur, hcur, _, htk⟩ := own_form own2 (by omega)
    injection hv with hv1 _ hv3
    subst hv1 hv3
    have cr : w2.cell? ⟨gr, 0, none⟩ = some (.pointer (some ⟨g, 0, none⟩)) := by
      rw [hcur.cell]
      have h := congrArg (fun l : List Value => l[0]?) htk
      simp only [List.getElem?_take_of_lt (show 0 < 1 by decide), Array.getElem?_toList] at h
      exact h
    have hz2 := B2.out.size
    have qn : w2.cell? ⟨g, 6, none⟩ = some (.int .i64 q.next) := (R2.out.q (g, q) (by rw [HQS.out]; simp)).1.cell 6
    obtain ⟨wy, hwy⟩ : ∃ wy, wy = w2 := ⟨_, rfl⟩
    have HWY := Lib.hid hwy
    clear own2 b2 htk hcur r3 hsA hwy HCQ
    have HOV := Lib.hid (overE w2 B w.heap.size w.heap.size rb g z now draw [] none 0 [] none 0 q R2.out W2.out HQS.out a1 (by simp) hB hz2)
    go_wp2
    go_loopw [46] (fun kv ws => (kv = .int .i64 0 ∧ Hid (ws = wy)) ∨ (kv = .int .i64 1 ∧ Hid (∃ (FA DA : Option Addr) (fc dc : Nat) (QA : Option Addr) (qc : Nat), IsRv ws B rb { z with qs := [], QA := QA, qc := qc } ∧ IsWk ws w.heap.size w.heap.size rb now draw [⟨q.first, 30, [], none, 0⟩] FA fc [] DA dc ∧ KeepT w.heap.size [68, 64, 66] w2 ws ∧ Below B w2 ws))) (fun kv _ => 1 - (intOf kv).toNat)
    case atStart => exact .inl ⟨rfl, HWY.out.symm⟩
    case round =>
      rcases hrel with ⟨rfl, HW2⟩ | ⟨rfl, HD⟩
      · have ew2 : wr = w2 := HW2.out.trans HWY.out
        subst ew2
        go_wp2_with fail
        refine HOV.out.mono ?_
        rintro e w5 ⟨rfl, F5, f5, Q5, c5, R5, W5, K5, N5, B5⟩
        have HD5 : Hid (∃ (FA DA : Option Addr) (fc dc : Nat) (QA : Option Addr) (qc : Nat), IsRv w5 B rb { z with qs := [], QA := QA, qc := qc } ∧ IsWk w5 w.heap.size w.heap.size rb now draw [⟨q.first, 30, [], none, 0⟩] FA fc [] DA dc ∧ KeepT w.heap.size [68, 64, 66] wr w5 ∧ Below B wr w5) := ⟨F5, none, f5, 0, Q5, c5, R5, W5, N5.mono (by decide), B5⟩
        clear R5 W5 K5 N5 B5 HOV
        go_wp2
        go_roundw
        case rel => exact .inr ⟨by go_num, HD5⟩
        case measure => simp [intOf]
      · obtain ⟨FA9, DA9, fc9, dc9, Q9, c9, Rd, Wd, Kd, Bd⟩ := HD.out
        have y3 := Wd.b.cell 3
        have y4 := Wd.b.cell 4
        simp only [List.getElem?_toArray, List.getElem?_cons_zero, List.getElem?_cons_succ] at y3 y4
        have HD2 := Lib.hid HD.out
        have HWd := Lib.hid Wd
        have HRd := Lib.hid Rd
        have HKd := Lib.hid Kd
        have HBd := Lib.hid Bd
        have hzd := Bd.size
        clear HD Wd Rd Kd Bd cr qn
        go_wp2
        go_quiet (fail)
        go_wp2
        go_ret2
        have kk : ∀ nq, KeepT w.heap.size [68, 64, 66] w (wr.drewN nq) := fun nq => ((KeepT.of_below B2.out (Nat.le_refl _)).trans HKd.out).trans (KeepT.of_below (dn (rf wr) nq) (by have := HBd.out.size; omega))
        have kb := fun nq => ((B2.out.mono hB).trans HBd.out).trans ((dn (rf wr) nq).mono (by have := HBd.out.size; omega))
        exact ⟨Q9, c9, _, _, _, _, rfl, HRd.out.nx (dn (rf wr) _), own_nx HWd.out.f (dn (rf wr) _), own_nx HWd.out.d (dn (rf wr) _), fun x hx => own_nx (HWd.out.fd x hx) (dn (rf wr) _), fun x hx => own_nx (HWd.out.dd x hx) (dn (rf wr) _), kk _, kb _⟩
end Go.Proofs.YtpfkmmmlocmakaaDoor
