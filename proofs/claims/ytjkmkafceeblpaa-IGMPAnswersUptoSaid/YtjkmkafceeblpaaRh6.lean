/-
  Groups, the reference: a message is heard.
-/
import Derived.Test.YtjkmkafceeblpaaRh5
import Derived.Test.YtjkmkafceeblpaaHgH
import Derived.Test.YtjkmkafceeblpaaIgR
set_option linter.unusedVariables false
namespace Go.Proofs.Ytjkmkafceeblpaa
open Go.RowKit

def RaP (w : World) (B h : Nat) (gs : List Gm) (e : Ending) (w' : World) : Prop :=
  ∃ v ms, e = .returned (.tuple #[]) ∧ IsRh w' B h ms v ∧ ms.map toG = gs ∧ Below B w w' ∧ KeepT w.heap.size [59, 96] w w'
theorem rhearBad (w : World) {B h : Nat} {ms : List Mb} {v : Value} (o : IsRh w B h ms v) (ty mx ga now draw : Int) (hbad : ¬ okM ty mx) (hB : B ≤ w.heap.size) :
    Calls Try.prog 48 #[.pointer (some ⟨h, 0, none⟩), .agg #[.int .i64 ty, .int .i64 mx, .int .u32 ga], .int .i64 now, .int .i64 draw] w fun e w' => RaP w B h (ms.map toG) e w' := by
  have HO := Lib.hid o
  have HE := Lib.hid (fun V : World => igREncBad V ty mx ga (by unfold okM at hbad; omega))
  have B0 := Lib.hid (al (rf w) (.cells #[.int .i64 ty, .int .i64 mx, .int .u32 ga] 27))
  clear o hbad
  go_enter Try.func48, Try.ntmps48
  go_wp2_with fail
  refine (HE.out _).mono ?_
  rintro e w1 ⟨rfl, b1⟩
  have B1 := Lib.hid (nx B0.out b1)
  go_wp2
  go_end0
  exact ⟨_, _, rfl, HO.out.nx B1.out, rfl, B1.out.mono hB, KeepT.of_below B1.out (Nat.le_refl _)⟩
theorem stepH_at {gs : List Gm} {k : Nat} {ty mx ga now draw : Int} {m : Gm} (h : gs[k]? = some m) : stepH ty mx ga now draw gs k = if ty = 17 ∧ (ga = 0 ∨ ga = m.a) then gs.set k (askM m (dueV now draw (mostG mx) k)) else if ty = 22 ∧ ga = m.a ∧ m.due.isSome = true then gs.set k (hushM m) else gs := by
  unfold stepH askG
  rw [h]
theorem stepsH_len (gs : List Gm) (k : Nat) (ty mx ga now draw : Int) : (stepsH gs k ty mx ga now draw).length = gs.length := by
  induction k with
  | zero => rfl
  | succ k ih =>
    rw [stepsH_succ, ← ih]
    unfold stepH
    split
    · split
      · rw [askG_len]
      · split
        · rw [List.length_set]
        · rfl
    · rfl
set_option maxRecDepth 10000 in
set_option maxHeartbeats 6400000 in
theorem rhearK (w : World) {B h : Nat} {ms : List Mb} {v : Value} (o : IsRh w B h ms v) (hn : ms.length ≤ 16) (ty mx ga now draw : Int) (hok : okM ty mx) (g0 : 0 ≤ ga) (g1 : ga ≤ 4294967295) (h0 : 0 ≤ now) (h1 : now ≤ 1000000000000) (d1 : draw ≤ 9223372036854775807) (d0 : -9223372036854775808 ≤ draw) (hB : B ≤ w.heap.size) :
    Calls Try.prog 48 #[.pointer (some ⟨h, 0, none⟩), .agg #[.int .i64 ty, .int .i64 mx, .int .u32 ga], .int .i64 now, .int .i64 draw] w fun e w' => RaP w B h (stepsH (ms.map toG) (ms.map toG).length ty mx ga now draw) e w' := by
  obtain ⟨t0, t1, m0, m1⟩ := hok
  have HO := Lib.hid o
  have HE := Lib.hid (fun V : World => igREncOk V ty mx ga t0 t1 m0 m1 g0 g1)
  have BX := Lib.hid (Blk.new w 27 #[.int .i64 ty, .int .i64 mx, .int .u32 ga])
  have B0 := Lib.hid (al (rf w) (.cells #[.int .i64 ty, .int .i64 mx, .int .u32 ga] 27))
  obtain ⟨A, c, hv, hnc⟩ := o.own.form
  obtain ⟨n, hnn⟩ : ∃ n, ms.length = n := ⟨_, rfl⟩
  rw [hnn] at hv hnc hn
  subst hv
  obtain ⟨gs, hgs⟩ : ∃ gs, ms.map toG = gs := ⟨_, rfl⟩
  have HGL : Hid (gs.length = n) := by show _ = _; rw [← hgs, List.length_map, hnn]
  have HG := Lib.hid hgs
  rw [hgs]
  clear o hnn hgs
  go_enter Try.func48, Try.ntmps48
  go_wp2_with fail
  refine (HE.out _).mono ?_
  rintro e w1 ⟨A1, c1, rfl, _, b1⟩
  have B1 := Lib.hid (nx B0.out b1)
  have BX1 := Lib.hid (BX.out.nx b1)
  clear b1
  go_wp2
  go_loopw [10] (fun iv wr => ∃ (k : Nat) (mk : List Mb), iv = .int .i64 k ∧ k ≤ n ∧ Hid (IsRh wr B h mk (.slice A n c)) ∧ Hid (mk.map toG = stepsH gs k ty mx ga now draw) ∧ Hid (Blk wr w.heap.size 27 #[.int .i64 ty, .int .i64 mx, .int .u32 ga]) ∧ Hid (Below B w wr) ∧ Hid (KeepT w.heap.size [59, 96] w wr)) (fun iv _ => n - (intOf iv).toNat)
  case atStart => exact ⟨0, ms, rfl, Nat.zero_le _, HO.out.nx B1.out, HG.out, BX1.out, B1.out.mono hB, KeepT.of_below B1.out (Nat.le_refl _)⟩
  case round =>
    obtain ⟨k, mk, rfl, hk, Ok, Mk, Xk, Bk, Kk⟩ := hrel
    have zk := Bk.out.size
    have ckr : wr.cell? ⟨h, 0, none⟩ = some (.slice A n c) := Ok.out.host.cell 0
    by_cases hkn : k < n
    · have k0 : (0 : Int) ≤ k := by omega
      have k1 : (k : Int) < n := by omega
      obtain ⟨r, hr⟩ : ∃ r, mk[k]? = some r := ⟨_, List.getElem?_eq_getElem (by
        have := congrArg List.length Mk.out
        rw [List.length_map, stepsH_len, HGL.out] at this
        omega)⟩
      have hS : stepsH gs (k + 1) ty mx ga now draw = if ty = 17 ∧ (ga = 0 ∨ ga = r.g) then (mk.map toG).set k (askM (toG r) (dueV now draw (mostG mx) k)) else if ty = 22 ∧ ga = r.g ∧ (toG r).due.isSome = true then (mk.map toG).set k (hushM (toG r)) else mk.map toG := by
        rw [stepsH_succ, ← Mk.out]
        exact stepH_at (map_at hr)
      have HS := Lib.hid hS
      obtain ⟨g, hA, _, e0, e1, e2, e3⟩ := OwnB.cells Ok.out.own hr
      subst hA
      have HR := Lib.hid hr
      have q0 : wr.cell? ⟨w.heap.size, 0, none⟩ = some (.int .i64 ty) := Xk.out.cell 0
      have q1 : wr.cell? ⟨w.heap.size, 1, none⟩ = some (.int .i64 mx) := Xk.out.cell 1
      have q2 : wr.cell? ⟨w.heap.size, 2, none⟩ = some (.int .u32 ga) := Xk.out.cell 2
      have q0d : wr.drew.cell? ⟨w.heap.size, 0, none⟩ = some (.int .i64 ty) := q0
      have q1d : wr.drew.cell? ⟨w.heap.size, 1, none⟩ = some (.int .i64 mx) := q1
      have q2d : wr.drew.cell? ⟨w.heap.size, 2, none⟩ = some (.int .u32 ga) := q2
      have e0d : wr.drew.cell? ⟨g, k * 4, none⟩ = some (.int .u32 r.g) := e0
      have ckd : wr.drew.cell? ⟨h, 0, none⟩ = some (.slice (some ⟨g, 0, none⟩) n c) := ckr
      have q0e : wr.drew.drew.cell? ⟨w.heap.size, 0, none⟩ = some (.int .i64 ty) := q0
      have q2e : wr.drew.drew.cell? ⟨w.heap.size, 2, none⟩ = some (.int .u32 ga) := q2
      have e0e : wr.drew.drew.cell? ⟨g, k * 4, none⟩ = some (.int .u32 r.g) := e0
      have cke : wr.drew.drew.cell? ⟨h, 0, none⟩ = some (.slice (some ⟨g, 0, none⟩) n c) := ckr
      have D1 := Lib.hid ((rf wr).drew)
      have D2 := Lib.hid (((rf wr).drew).drew)
      have f1 : wr.frozen? ⟨g, k * 4 + 1, none⟩ = false := Ok.out.fro (k * 4 + 1)
      have f2 : wr.frozen? ⟨g, k * 4 + 2, none⟩ = false := Ok.out.fro (k * 4 + 2)
      have f3 : wr.frozen? ⟨g, k * 4 + 3, none⟩ = false := Ok.out.fro (k * 4 + 3)
      have Z2 := D2.out.size
      have O2 := Lib.hid (Ok.out.nx D2.out)
      have X2 := Lib.hid (Xk.out.nx D2.out)
      have B2 := Lib.hid (Bk.out.trans (D2.out.mono (by omega)))
      have K2 := Lib.hid (Kk.out.trans (KeepT.of_below (ts := [59, 96]) D2.out zk))
      have z2 : w.heap.size ≤ wr.drew.drew.heap.size := by omega
      have Z1 := D1.out.size
      have O1 := Lib.hid (Ok.out.nx D1.out)
      have X1 := Lib.hid (Xk.out.nx D1.out)
      have B1' := Lib.hid (Bk.out.trans (D1.out.mono (by omega)))
      have K1 := Lib.hid (Kk.out.trans (KeepT.of_below (ts := [59, 96]) D1.out zk))
      have z1 : w.heap.size ≤ wr.drew.heap.size := by omega
      clear hr
      obtain ⟨tm, htm⟩ : ∃ tm, r.timed = tm := ⟨_, rfl⟩
      have HTM := Lib.hid htm
      obtain ⟨ra, hra⟩ : ∃ ra, r.at_ = ra := ⟨_, rfl⟩
      have HRA := Lib.hid hra
      obtain ⟨rg, hrg⟩ : ∃ rg, r.g = rg := ⟨_, rfl⟩
      have HRG := Lib.hid hrg
      rw [htm] at e1
      rw [hra] at e2
      rw [hrg] at e0 e0d e0e
      have e1d : wr.drew.cell? ⟨g, k * 4 + 1, none⟩ = some (.bool tm) := e1
      have e1e : wr.drew.drew.cell? ⟨g, k * 4 + 1, none⟩ = some (.bool tm) := e1
      have e2d : wr.drew.cell? ⟨g, k * 4 + 2, none⟩ = some (.int .i64 ra) := e2
      clear htm hra hrg hS
      by_cases c17 : ty = 17
      · subst c17
        have hga : (ga = 0) ∨ (¬ ga = 0 ∧ ga = rg) ∨ (¬ ga = 0 ∧ ¬ ga = rg) := by omega
        rcases hga with ha | ⟨ha, hb⟩ | ⟨ha, hb⟩
        · have hQ : (17 : Int) = 17 ∧ (ga = 0 ∨ ga = r.g) := ⟨rfl, by rw [HRG.out]; exact .inl ha⟩
          have HS1 : Hid (stepsH gs (k + 1) 17 mx ga now draw = (mk.map toG).set k (askM (toG r) (dueV now draw (mostG mx) k))) := by show _ = _; rw [HS.out, if_pos hQ]
          have b0 : (ga == 0) = true := by simpa using ha
          clear HS ha  hQ
          by_cases hm0 : mx = 0
          · obtain ⟨mo, hmo⟩ : ∃ mo, mostG mx = mo := ⟨_, rfl⟩
            have mo0 : 1 ≤ mo := by rw [← hmo]; unfold mostG; split <;> omega
            have mo1 : mo ≤ 255 := by rw [← hmo]; unfold mostG; split <;> omega
            obtain ⟨y, hy⟩ : ∃ y : Int, 1 + (max 0 draw % mo + k) % mo = y := ⟨_, rfl⟩
            have hk1000 : k ≤ 1000 := by omega
            have y0 : 1 ≤ y := by rw [← hy]; have := Int.emod_nonneg (max 0 draw % mo + k) (show mo ≠ 0 by omega); omega
            have y1 : y ≤ 255 := by rw [← hy]; have := Int.emod_lt_of_pos (max 0 draw % mo + k) (show 0 < mo by omega); omega
            have HV : Hid (dueV now draw (mostG mx) k = now + y) := by show _ = _; unfold dueV; rw [hmo, hy]
            have HD := Lib.hid (fun V : World => delayK draw mo k V mo0 mo1 hk1000 d1 d0)
            rw [hy] at HD
            have HL := Lib.hid (fun V : World => laterK now y V h0 (by omega) (by omega))
            have HY := Lib.hid hy
            have ny0 : 0 ≤ now + y := by omega
            have ny1 : now + y ≤ 1000000001000 := by omega
            have hmx : mx = 0 := by assumption
            have hm2 : mo = 100 := by rw [← hmo, hmx]; rfl
            subst hmx
            subst hm2
            clear hmo hy
            cases tm with
            | false =>
              have s1 := O1.out.cell HR.out 1 (by omega) (.bool true) (r' := { r with timed := true }) rfl (by omega)
              have hz1 := s1.2.1.size
              have s2 := s1.1.cell (i := k) (r := { r with timed := true }) (by rw [List.getElem?_set, if_pos rfl, if_pos (List.getElem?_eq_some_iff.1 HR.out).1]) 2 (by omega) (.int .i64 (now + y)) (r' := { r with timed := true, at_ := now + y }) rfl (by omega)
              rw [List.set_set] at s2
              have O3 := Lib.hid s2.1
              have X3 := Lib.hid (s2.2.2.blk_ (s1.2.2.blk_ X1.out (by decide)) (by decide))
              have B3 := Lib.hid ((B1'.out.trans s1.2.1).trans s2.2.1)
              have K3 := Lib.hid ((K1.out.trans (s1.2.2.less z1)).trans (s2.2.2.less (by omega)))
              have ck3 : (wr.drew.setCell ⟨g, k * 4 + 1, none⟩ (.bool true)).cell? ⟨h, 0, none⟩ = some (.slice (some ⟨g, 0, none⟩) n c) := s1.1.host.cell 0
              clear s1 s2 hz1
              have M3 : Hid ((mk.set k { r with timed := true, at_ := now + y }).map toG = stepsH gs (k + 1) 17 0 ga now draw) := by
                show _ = _
                rw [HS1.out, HV.out, List.map_set]
                unfold toG askM
                simp only [HTM.out]
                rfl
              go_wp2
              go_region
              go_wp2_with fail
              refine (HD.out _).mono ?_
              rintro e w3 ⟨rfl, rfl⟩
              go_wp2_with fail
              refine (HL.out _).mono ?_
              rintro e w3 ⟨rfl, rfl⟩
              go_wp2
              go_roundw
              case rel => exact ⟨k + 1, _, by go_num, by omega, O3.out, M3.out, X3.out, B3.out, K3.out⟩
              case measure => simp [intOf]; omega
            | true =>
              by_cases hlt : now + y < ra
              · have s1 := O1.out.cell HR.out 1 (by omega) (.bool true) (r' := { r with timed := true }) rfl (by omega)
                have hz1 := s1.2.1.size
                have s2 := s1.1.cell (i := k) (r := { r with timed := true }) (by rw [List.getElem?_set, if_pos rfl, if_pos (List.getElem?_eq_some_iff.1 HR.out).1]) 2 (by omega) (.int .i64 (now + y)) (r' := { r with timed := true, at_ := now + y }) rfl (by omega)
                rw [List.set_set] at s2
                have O3 := Lib.hid s2.1
                have X3 := Lib.hid (s2.2.2.blk_ (s1.2.2.blk_ X1.out (by decide)) (by decide))
                have B3 := Lib.hid ((B1'.out.trans s1.2.1).trans s2.2.1)
                have K3 := Lib.hid ((K1.out.trans (s1.2.2.less z1)).trans (s2.2.2.less (by omega)))
                have ck3 : (wr.drew.setCell ⟨g, k * 4 + 1, none⟩ (.bool true)).cell? ⟨h, 0, none⟩ = some (.slice (some ⟨g, 0, none⟩) n c) := s1.1.host.cell 0
                clear s1 s2 hz1
                have M3 : Hid ((mk.set k { r with timed := true, at_ := now + y }).map toG = stepsH gs (k + 1) 17 0 ga now draw) := by
                  show _ = _
                  rw [HS1.out, HV.out, List.map_set]
                  unfold toG askM
                  simp only [HTM.out, HRA.out, if_true, if_pos hlt]
                go_wp2
                go_region
                go_wp2_with fail
                refine (HD.out _).mono ?_
                rintro e w3 ⟨rfl, rfl⟩
                go_wp2_with fail
                refine (HL.out _).mono ?_
                rintro e w3 ⟨rfl, rfl⟩
                go_wp2
                go_roundw
                case rel => exact ⟨k + 1, _, by go_num, by omega, O3.out, M3.out, X3.out, B3.out, K3.out⟩
                case measure => simp [intOf]; omega
              · have HS2 : Hid (stepsH gs (k + 1) 17 0 ga now draw = mk.map toG) := by
                  show _ = _
                  rw [HS1.out, HV.out]
                  have e : askM (toG r) (now + y) = toG r := by
                    unfold toG askM
                    simp only [HTM.out, HRA.out, if_true, if_neg hlt]
                  rw [e, set_same _ _ _ (map_at HR.out)]
                go_wp2
                go_region
                go_wp2_with fail
                refine (HD.out _).mono ?_
                rintro e w3 ⟨rfl, rfl⟩
                go_wp2_with fail
                refine (HL.out _).mono ?_
                rintro e w3 ⟨rfl, rfl⟩
                go_wp2
                go_roundw
                case rel => exact ⟨k + 1, mk, by go_num, by omega, O1.out, by show _ = _; rw [HS2.out], X1.out, B1'.out, K1.out⟩
                case measure => simp [intOf]; omega
          · obtain ⟨mo, hmo⟩ : ∃ mo, mostG mx = mo := ⟨_, rfl⟩
            have mo0 : 1 ≤ mo := by rw [← hmo]; unfold mostG; split <;> omega
            have mo1 : mo ≤ 255 := by rw [← hmo]; unfold mostG; split <;> omega
            obtain ⟨y, hy⟩ : ∃ y : Int, 1 + (max 0 draw % mo + k) % mo = y := ⟨_, rfl⟩
            have hk1000 : k ≤ 1000 := by omega
            have y0 : 1 ≤ y := by rw [← hy]; have := Int.emod_nonneg (max 0 draw % mo + k) (show mo ≠ 0 by omega); omega
            have y1 : y ≤ 255 := by rw [← hy]; have := Int.emod_lt_of_pos (max 0 draw % mo + k) (show 0 < mo by omega); omega
            have HV : Hid (dueV now draw (mostG mx) k = now + y) := by show _ = _; unfold dueV; rw [hmo, hy]
            have HD := Lib.hid (fun V : World => delayK draw mo k V mo0 mo1 hk1000 d1 d0)
            rw [hy] at HD
            have HL := Lib.hid (fun V : World => laterK now y V h0 (by omega) (by omega))
            have HY := Lib.hid hy
            have ny0 : 0 ≤ now + y := by omega
            have ny1 : now + y ≤ 1000000001000 := by omega
            have hmx : ¬ mx = 0 := by assumption
            have hm2 : mx = mo := by rw [← hmo]; unfold mostG; rw [if_neg hmx]
            have emx : (mx == 0) = false := by simpa using hmx
            subst hm2
            clear hmo hy
            cases tm with
            | false =>
              have s1 := O1.out.cell HR.out 1 (by omega) (.bool true) (r' := { r with timed := true }) rfl (by omega)
              have hz1 := s1.2.1.size
              have s2 := s1.1.cell (i := k) (r := { r with timed := true }) (by rw [List.getElem?_set, if_pos rfl, if_pos (List.getElem?_eq_some_iff.1 HR.out).1]) 2 (by omega) (.int .i64 (now + y)) (r' := { r with timed := true, at_ := now + y }) rfl (by omega)
              rw [List.set_set] at s2
              have O3 := Lib.hid s2.1
              have X3 := Lib.hid (s2.2.2.blk_ (s1.2.2.blk_ X1.out (by decide)) (by decide))
              have B3 := Lib.hid ((B1'.out.trans s1.2.1).trans s2.2.1)
              have K3 := Lib.hid ((K1.out.trans (s1.2.2.less z1)).trans (s2.2.2.less (by omega)))
              have ck3 : (wr.drew.setCell ⟨g, k * 4 + 1, none⟩ (.bool true)).cell? ⟨h, 0, none⟩ = some (.slice (some ⟨g, 0, none⟩) n c) := s1.1.host.cell 0
              clear s1 s2 hz1
              have M3 : Hid ((mk.set k { r with timed := true, at_ := now + y }).map toG = stepsH gs (k + 1) 17 mx ga now draw) := by
                show _ = _
                rw [HS1.out, HV.out, List.map_set]
                unfold toG askM
                simp only [HTM.out]
                rfl
              go_wp2
              go_region
              go_wp2_with fail
              refine (HD.out _).mono ?_
              rintro e w3 ⟨rfl, rfl⟩
              go_wp2_with fail
              refine (HL.out _).mono ?_
              rintro e w3 ⟨rfl, rfl⟩
              go_wp2
              go_roundw
              case rel => exact ⟨k + 1, _, by go_num, by omega, O3.out, M3.out, X3.out, B3.out, K3.out⟩
              case measure => simp [intOf]; omega
            | true =>
              by_cases hlt : now + y < ra
              · have s1 := O1.out.cell HR.out 1 (by omega) (.bool true) (r' := { r with timed := true }) rfl (by omega)
                have hz1 := s1.2.1.size
                have s2 := s1.1.cell (i := k) (r := { r with timed := true }) (by rw [List.getElem?_set, if_pos rfl, if_pos (List.getElem?_eq_some_iff.1 HR.out).1]) 2 (by omega) (.int .i64 (now + y)) (r' := { r with timed := true, at_ := now + y }) rfl (by omega)
                rw [List.set_set] at s2
                have O3 := Lib.hid s2.1
                have X3 := Lib.hid (s2.2.2.blk_ (s1.2.2.blk_ X1.out (by decide)) (by decide))
                have B3 := Lib.hid ((B1'.out.trans s1.2.1).trans s2.2.1)
                have K3 := Lib.hid ((K1.out.trans (s1.2.2.less z1)).trans (s2.2.2.less (by omega)))
                have ck3 : (wr.drew.setCell ⟨g, k * 4 + 1, none⟩ (.bool true)).cell? ⟨h, 0, none⟩ = some (.slice (some ⟨g, 0, none⟩) n c) := s1.1.host.cell 0
                clear s1 s2 hz1
                have M3 : Hid ((mk.set k { r with timed := true, at_ := now + y }).map toG = stepsH gs (k + 1) 17 mx ga now draw) := by
                  show _ = _
                  rw [HS1.out, HV.out, List.map_set]
                  unfold toG askM
                  simp only [HTM.out, HRA.out, if_true, if_pos hlt]
                go_wp2
                go_region
                go_wp2_with fail
                refine (HD.out _).mono ?_
                rintro e w3 ⟨rfl, rfl⟩
                go_wp2_with fail
                refine (HL.out _).mono ?_
                rintro e w3 ⟨rfl, rfl⟩
                go_wp2
                go_roundw
                case rel => exact ⟨k + 1, _, by go_num, by omega, O3.out, M3.out, X3.out, B3.out, K3.out⟩
                case measure => simp [intOf]; omega
              · have HS2 : Hid (stepsH gs (k + 1) 17 mx ga now draw = mk.map toG) := by
                  show _ = _
                  rw [HS1.out, HV.out]
                  have e : askM (toG r) (now + y) = toG r := by
                    unfold toG askM
                    simp only [HTM.out, HRA.out, if_true, if_neg hlt]
                  rw [e, set_same _ _ _ (map_at HR.out)]
                go_wp2
                go_region
                go_wp2_with fail
                refine (HD.out _).mono ?_
                rintro e w3 ⟨rfl, rfl⟩
                go_wp2_with fail
                refine (HL.out _).mono ?_
                rintro e w3 ⟨rfl, rfl⟩
                go_wp2
                go_roundw
                case rel => exact ⟨k + 1, mk, by go_num, by omega, O1.out, by show _ = _; rw [HS2.out], X1.out, B1'.out, K1.out⟩
                case measure => simp [intOf]; omega
        · have hQ : (17 : Int) = 17 ∧ (ga = 0 ∨ ga = r.g) := ⟨rfl, by rw [HRG.out]; exact .inr hb⟩
          have HS1 : Hid (stepsH gs (k + 1) 17 mx ga now draw = (mk.map toG).set k (askM (toG r) (dueV now draw (mostG mx) k))) := by show _ = _; rw [HS.out, if_pos hQ]
          have b0 : (ga == 0) = false := by simpa using ha
          have b1 : (ga == rg) = true := by simpa using hb
          clear HS ha hb hQ
          by_cases hm0 : mx = 0
          · obtain ⟨mo, hmo⟩ : ∃ mo, mostG mx = mo := ⟨_, rfl⟩
            have mo0 : 1 ≤ mo := by rw [← hmo]; unfold mostG; split <;> omega
            have mo1 : mo ≤ 255 := by rw [← hmo]; unfold mostG; split <;> omega
            obtain ⟨y, hy⟩ : ∃ y : Int, 1 + (max 0 draw % mo + k) % mo = y := ⟨_, rfl⟩
            have hk1000 : k ≤ 1000 := by omega
            have y0 : 1 ≤ y := by rw [← hy]; have := Int.emod_nonneg (max 0 draw % mo + k) (show mo ≠ 0 by omega); omega
            have y1 : y ≤ 255 := by rw [← hy]; have := Int.emod_lt_of_pos (max 0 draw % mo + k) (show 0 < mo by omega); omega
            have HV : Hid (dueV now draw (mostG mx) k = now + y) := by show _ = _; unfold dueV; rw [hmo, hy]
            have HD := Lib.hid (fun V : World => delayK draw mo k V mo0 mo1 hk1000 d1 d0)
            rw [hy] at HD
            have HL := Lib.hid (fun V : World => laterK now y V h0 (by omega) (by omega))
            have HY := Lib.hid hy
            have ny0 : 0 ≤ now + y := by omega
            have ny1 : now + y ≤ 1000000001000 := by omega
            have hmx : mx = 0 := by assumption
            have hm2 : mo = 100 := by rw [← hmo, hmx]; rfl
            subst hmx
            subst hm2
            clear hmo hy
            cases tm with
            | false =>
              have s1 := O1.out.cell HR.out 1 (by omega) (.bool true) (r' := { r with timed := true }) rfl (by omega)
              have hz1 := s1.2.1.size
              have s2 := s1.1.cell (i := k) (r := { r with timed := true }) (by rw [List.getElem?_set, if_pos rfl, if_pos (List.getElem?_eq_some_iff.1 HR.out).1]) 2 (by omega) (.int .i64 (now + y)) (r' := { r with timed := true, at_ := now + y }) rfl (by omega)
              rw [List.set_set] at s2
              have O3 := Lib.hid s2.1
              have X3 := Lib.hid (s2.2.2.blk_ (s1.2.2.blk_ X1.out (by decide)) (by decide))
              have B3 := Lib.hid ((B1'.out.trans s1.2.1).trans s2.2.1)
              have K3 := Lib.hid ((K1.out.trans (s1.2.2.less z1)).trans (s2.2.2.less (by omega)))
              have ck3 : (wr.drew.setCell ⟨g, k * 4 + 1, none⟩ (.bool true)).cell? ⟨h, 0, none⟩ = some (.slice (some ⟨g, 0, none⟩) n c) := s1.1.host.cell 0
              clear s1 s2 hz1
              have M3 : Hid ((mk.set k { r with timed := true, at_ := now + y }).map toG = stepsH gs (k + 1) 17 0 ga now draw) := by
                show _ = _
                rw [HS1.out, HV.out, List.map_set]
                unfold toG askM
                simp only [HTM.out]
                rfl
              go_wp2
              go_region
              go_wp2_with fail
              refine (HD.out _).mono ?_
              rintro e w3 ⟨rfl, rfl⟩
              go_wp2_with fail
              refine (HL.out _).mono ?_
              rintro e w3 ⟨rfl, rfl⟩
              go_wp2
              go_roundw
              case rel => exact ⟨k + 1, _, by go_num, by omega, O3.out, M3.out, X3.out, B3.out, K3.out⟩
              case measure => simp [intOf]; omega
            | true =>
              by_cases hlt : now + y < ra
              · have s1 := O1.out.cell HR.out 1 (by omega) (.bool true) (r' := { r with timed := true }) rfl (by omega)
                have hz1 := s1.2.1.size
                have s2 := s1.1.cell (i := k) (r := { r with timed := true }) (by rw [List.getElem?_set, if_pos rfl, if_pos (List.getElem?_eq_some_iff.1 HR.out).1]) 2 (by omega) (.int .i64 (now + y)) (r' := { r with timed := true, at_ := now + y }) rfl (by omega)
                rw [List.set_set] at s2
                have O3 := Lib.hid s2.1
                have X3 := Lib.hid (s2.2.2.blk_ (s1.2.2.blk_ X1.out (by decide)) (by decide))
                have B3 := Lib.hid ((B1'.out.trans s1.2.1).trans s2.2.1)
                have K3 := Lib.hid ((K1.out.trans (s1.2.2.less z1)).trans (s2.2.2.less (by omega)))
                have ck3 : (wr.drew.setCell ⟨g, k * 4 + 1, none⟩ (.bool true)).cell? ⟨h, 0, none⟩ = some (.slice (some ⟨g, 0, none⟩) n c) := s1.1.host.cell 0
                clear s1 s2 hz1
                have M3 : Hid ((mk.set k { r with timed := true, at_ := now + y }).map toG = stepsH gs (k + 1) 17 0 ga now draw) := by
                  show _ = _
                  rw [HS1.out, HV.out, List.map_set]
                  unfold toG askM
                  simp only [HTM.out, HRA.out, if_true, if_pos hlt]
                go_wp2
                go_region
                go_wp2_with fail
                refine (HD.out _).mono ?_
                rintro e w3 ⟨rfl, rfl⟩
                go_wp2_with fail
                refine (HL.out _).mono ?_
                rintro e w3 ⟨rfl, rfl⟩
                go_wp2
                go_roundw
                case rel => exact ⟨k + 1, _, by go_num, by omega, O3.out, M3.out, X3.out, B3.out, K3.out⟩
                case measure => simp [intOf]; omega
              · have HS2 : Hid (stepsH gs (k + 1) 17 0 ga now draw = mk.map toG) := by
                  show _ = _
                  rw [HS1.out, HV.out]
                  have e : askM (toG r) (now + y) = toG r := by
                    unfold toG askM
                    simp only [HTM.out, HRA.out, if_true, if_neg hlt]
                  rw [e, set_same _ _ _ (map_at HR.out)]
                go_wp2
                go_region
                go_wp2_with fail
                refine (HD.out _).mono ?_
                rintro e w3 ⟨rfl, rfl⟩
                go_wp2_with fail
                refine (HL.out _).mono ?_
                rintro e w3 ⟨rfl, rfl⟩
                go_wp2
                go_roundw
                case rel => exact ⟨k + 1, mk, by go_num, by omega, O1.out, by show _ = _; rw [HS2.out], X1.out, B1'.out, K1.out⟩
                case measure => simp [intOf]; omega
          · obtain ⟨mo, hmo⟩ : ∃ mo, mostG mx = mo := ⟨_, rfl⟩
            have mo0 : 1 ≤ mo := by rw [← hmo]; unfold mostG; split <;> omega
            have mo1 : mo ≤ 255 := by rw [← hmo]; unfold mostG; split <;> omega
            obtain ⟨y, hy⟩ : ∃ y : Int, 1 + (max 0 draw % mo + k) % mo = y := ⟨_, rfl⟩
            have hk1000 : k ≤ 1000 := by omega
            have y0 : 1 ≤ y := by rw [← hy]; have := Int.emod_nonneg (max 0 draw % mo + k) (show mo ≠ 0 by omega); omega
            have y1 : y ≤ 255 := by rw [← hy]; have := Int.emod_lt_of_pos (max 0 draw % mo + k) (show 0 < mo by omega); omega
            have HV : Hid (dueV now draw (mostG mx) k = now + y) := by show _ = _; unfold dueV; rw [hmo, hy]
            have HD := Lib.hid (fun V : World => delayK draw mo k V mo0 mo1 hk1000 d1 d0)
            rw [hy] at HD
            have HL := Lib.hid (fun V : World => laterK now y V h0 (by omega) (by omega))
            have HY := Lib.hid hy
            have ny0 : 0 ≤ now + y := by omega
            have ny1 : now + y ≤ 1000000001000 := by omega
            have hmx : ¬ mx = 0 := by assumption
            have hm2 : mx = mo := by rw [← hmo]; unfold mostG; rw [if_neg hmx]
            have emx : (mx == 0) = false := by simpa using hmx
            subst hm2
            clear hmo hy
            cases tm with
            | false =>
              have s1 := O1.out.cell HR.out 1 (by omega) (.bool true) (r' := { r with timed := true }) rfl (by omega)
              have hz1 := s1.2.1.size
              have s2 := s1.1.cell (i := k) (r := { r with timed := true }) (by rw [List.getElem?_set, if_pos rfl, if_pos (List.getElem?_eq_some_iff.1 HR.out).1]) 2 (by omega) (.int .i64 (now + y)) (r' := { r with timed := true, at_ := now + y }) rfl (by omega)
              rw [List.set_set] at s2
              have O3 := Lib.hid s2.1
              have X3 := Lib.hid (s2.2.2.blk_ (s1.2.2.blk_ X1.out (by decide)) (by decide))
              have B3 := Lib.hid ((B1'.out.trans s1.2.1).trans s2.2.1)
              have K3 := Lib.hid ((K1.out.trans (s1.2.2.less z1)).trans (s2.2.2.less (by omega)))
              have ck3 : (wr.drew.setCell ⟨g, k * 4 + 1, none⟩ (.bool true)).cell? ⟨h, 0, none⟩ = some (.slice (some ⟨g, 0, none⟩) n c) := s1.1.host.cell 0
              clear s1 s2 hz1
              have M3 : Hid ((mk.set k { r with timed := true, at_ := now + y }).map toG = stepsH gs (k + 1) 17 mx ga now draw) := by
                show _ = _
                rw [HS1.out, HV.out, List.map_set]
                unfold toG askM
                simp only [HTM.out]
                rfl
              go_wp2
              go_region
              go_wp2_with fail
              refine (HD.out _).mono ?_
              rintro e w3 ⟨rfl, rfl⟩
              go_wp2_with fail
              refine (HL.out _).mono ?_
              rintro e w3 ⟨rfl, rfl⟩
              go_wp2
              go_roundw
              case rel => exact ⟨k + 1, _, by go_num, by omega, O3.out, M3.out, X3.out, B3.out, K3.out⟩
              case measure => simp [intOf]; omega
            | true =>
              by_cases hlt : now + y < ra
              · have s1 := O1.out.cell HR.out 1 (by omega) (.bool true) (r' := { r with timed := true }) rfl (by omega)
                have hz1 := s1.2.1.size
                have s2 := s1.1.cell (i := k) (r := { r with timed := true }) (by rw [List.getElem?_set, if_pos rfl, if_pos (List.getElem?_eq_some_iff.1 HR.out).1]) 2 (by omega) (.int .i64 (now + y)) (r' := { r with timed := true, at_ := now + y }) rfl (by omega)
                rw [List.set_set] at s2
                have O3 := Lib.hid s2.1
                have X3 := Lib.hid (s2.2.2.blk_ (s1.2.2.blk_ X1.out (by decide)) (by decide))
                have B3 := Lib.hid ((B1'.out.trans s1.2.1).trans s2.2.1)
                have K3 := Lib.hid ((K1.out.trans (s1.2.2.less z1)).trans (s2.2.2.less (by omega)))
                have ck3 : (wr.drew.setCell ⟨g, k * 4 + 1, none⟩ (.bool true)).cell? ⟨h, 0, none⟩ = some (.slice (some ⟨g, 0, none⟩) n c) := s1.1.host.cell 0
                clear s1 s2 hz1
                have M3 : Hid ((mk.set k { r with timed := true, at_ := now + y }).map toG = stepsH gs (k + 1) 17 mx ga now draw) := by
                  show _ = _
                  rw [HS1.out, HV.out, List.map_set]
                  unfold toG askM
                  simp only [HTM.out, HRA.out, if_true, if_pos hlt]
                go_wp2
                go_region
                go_wp2_with fail
                refine (HD.out _).mono ?_
                rintro e w3 ⟨rfl, rfl⟩
                go_wp2_with fail
                refine (HL.out _).mono ?_
                rintro e w3 ⟨rfl, rfl⟩
                go_wp2
                go_roundw
                case rel => exact ⟨k + 1, _, by go_num, by omega, O3.out, M3.out, X3.out, B3.out, K3.out⟩
                case measure => simp [intOf]; omega
              · have HS2 : Hid (stepsH gs (k + 1) 17 mx ga now draw = mk.map toG) := by
                  show _ = _
                  rw [HS1.out, HV.out]
                  have e : askM (toG r) (now + y) = toG r := by
                    unfold toG askM
                    simp only [HTM.out, HRA.out, if_true, if_neg hlt]
                  rw [e, set_same _ _ _ (map_at HR.out)]
                go_wp2
                go_region
                go_wp2_with fail
                refine (HD.out _).mono ?_
                rintro e w3 ⟨rfl, rfl⟩
                go_wp2_with fail
                refine (HL.out _).mono ?_
                rintro e w3 ⟨rfl, rfl⟩
                go_wp2
                go_roundw
                case rel => exact ⟨k + 1, mk, by go_num, by omega, O1.out, by show _ = _; rw [HS2.out], X1.out, B1'.out, K1.out⟩
                case measure => simp [intOf]; omega
        · have HS2 : Hid (stepsH gs (k + 1) 17 mx ga now draw = mk.map toG) := by show _ = _; rw [HS.out, if_neg (by rw [HRG.out]; omega), if_neg (by omega)]
          have b0 : (ga == 0) = false := by simpa using ha
          have b1 : (ga == rg) = false := by simpa using hb
          clear HS ha hb
          go_wp2
          go_region
          go_wp2
          go_region
          go_wp2
          go_roundw
          case rel => exact ⟨k + 1, mk, by go_num, by omega, O2.out, by show _ = _; rw [HS2.out], X2.out, B2.out, K2.out⟩
          case measure => simp [intOf]; omega
      · have b17 : (ty == 17) = false := by simpa using c17
        by_cases c22 : ty = 22
        · subst c22
          by_cases hb : ga = rg
          · have b1 : (ga == rg) = true := by simpa using hb
            cases tm with
            | true =>
              have hQ : (22 : Int) = 22 ∧ ga = r.g ∧ (toG r).due.isSome = true := ⟨rfl, by rw [HRG.out]; exact hb, by unfold toG; simp [HTM.out]⟩
              have HS1 : Hid (stepsH gs (k + 1) 22 mx ga now draw = (mk.map toG).set k (hushM (toG r))) := by show _ = _; rw [HS.out, if_neg (by omega), if_pos hQ]
              clear HS hb hQ c17
              have s1 := O2.out.cell HR.out 1 (by omega) (.bool false) (r' := { r with timed := false }) rfl (by omega)
              have hz1 := s1.2.1.size
              have s2 := s1.1.cell (i := k) (r := { r with timed := false }) (by rw [List.getElem?_set, if_pos rfl, if_pos (List.getElem?_eq_some_iff.1 HR.out).1]) 3 (by omega) (.bool false) (r' := { r with timed := false, ours := false }) rfl (by omega)
              rw [List.set_set] at s2
              have O3 := Lib.hid s2.1
              have X3 := Lib.hid (s2.2.2.blk_ (s1.2.2.blk_ X2.out (by decide)) (by decide))
              have B3 := Lib.hid ((B2.out.trans s1.2.1).trans s2.2.1)
              have K3 := Lib.hid ((K2.out.trans (s1.2.2.less z2)).trans (s2.2.2.less (by omega)))
              have ck3 : (wr.drew.drew.setCell ⟨g, k * 4 + 1, none⟩ (.bool false)).cell? ⟨h, 0, none⟩ = some (.slice (some ⟨g, 0, none⟩) n c) := s1.1.host.cell 0
              clear s1 s2 hz1
              have M3 : Hid ((mk.set k { r with timed := false, ours := false }).map toG = stepsH gs (k + 1) 22 mx ga now draw) := by
                show _ = _
                rw [HS1.out, List.map_set]
                rfl
              go_wp2
              go_region
              go_wp2
              go_region
              go_wp2
              go_roundw
              case rel => exact ⟨k + 1, _, by go_num, by omega, O3.out, M3.out, X3.out, B3.out, K3.out⟩
              case measure => simp [intOf]; omega
            | false =>
              have HS2 : Hid (stepsH gs (k + 1) 22 mx ga now draw = mk.map toG) := by show _ = _; rw [HS.out, if_neg (by omega), if_neg (by unfold toG; simp [HTM.out])]
              clear HS hb c17
              go_wp2
              go_region
              go_wp2
              go_region
              go_wp2
              go_roundw
              case rel => exact ⟨k + 1, mk, by go_num, by omega, O2.out, by show _ = _; rw [HS2.out], X2.out, B2.out, K2.out⟩
              case measure => simp [intOf]; omega
          · have b1 : (ga == rg) = false := by simpa using hb
            have HS2 : Hid (stepsH gs (k + 1) 22 mx ga now draw = mk.map toG) := by show _ = _; rw [HS.out, if_neg (by omega), if_neg (by rw [HRG.out]; omega)]
            clear HS hb c17
            go_wp2
            go_region
            go_wp2
            go_region
            go_wp2
            go_roundw
            case rel => exact ⟨k + 1, mk, by go_num, by omega, O2.out, by show _ = _; rw [HS2.out], X2.out, B2.out, K2.out⟩
            case measure => simp [intOf]; omega
        · have b22 : (ty == 22) = false := by simpa using c22
          have HS2 : Hid (stepsH gs (k + 1) ty mx ga now draw = mk.map toG) := by show _ = _; rw [HS.out, if_neg (by omega), if_neg (by omega)]
          clear HS c22 c17
          go_wp2
          go_region
          go_wp2
          go_region
          go_wp2
          go_roundw
          case rel => exact ⟨k + 1, mk, by go_num, by omega, O2.out, by show _ = _; rw [HS2.out], X2.out, B2.out, K2.out⟩
          case measure => simp [intOf]; omega
    · obtain rfl : k = n := by omega
      have hE : RaP w B h (stepsH gs gs.length ty mx ga now draw) (.returned (.tuple #[])) wr := by
        rw [HGL.out]
        exact ⟨_, _, rfl, Ok.out, Mk.out, Bk.out, Kk.out⟩
      have HEE := Lib.hid hE
      clear hE
      go_wp2
      go_end0
      exact HEE.out
end Go.Proofs.Ytjkmkafceeblpaa
