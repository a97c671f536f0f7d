/-
  Groups: a Host of many groups hears a message.
-/
import Derived.Test.YtjkmkafceeblpaaHg4
import Derived.Test.YtjkmkafceeblpaaIgE
set_option linter.unusedVariables false
namespace Go.Proofs.Ytjkmkafceeblpaa
open Go.RowKit

def askAll (gs : List Gm) (k : Nat) (mx now draw : Int) : List Gm := (List.range k).foldl (fun G i => askG G i mx now draw) gs
theorem askG_len (gs : List Gm) (i : Nat) (mx now draw : Int) : (askG gs i mx now draw).length = gs.length := by
  unfold askG
  split
  · rw [List.length_set]
  · rfl
theorem askAll_succ (gs : List Gm) (k : Nat) (mx now draw : Int) : askAll gs (k + 1) mx now draw = askG (askAll gs k mx now draw) k mx now draw := by
  unfold askAll
  rw [List.range_succ, List.foldl_append]
  rfl
theorem askAll_len (gs : List Gm) (k : Nat) (mx now draw : Int) : (askAll gs k mx now draw).length = gs.length := by
  induction k with
  | zero => rfl
  | succ k ih => rw [askAll_succ, askG_len, ih]
def okM (ty mx : Int) : Prop := 0 ≤ ty ∧ ty ≤ 255 ∧ 0 ≤ mx ∧ mx ≤ 255
def hushM (m : Gm) : Gm := { m with due := none, ours := false }
def hearG (gs : List Gm) (ty mx ga now draw : Int) : List Gm :=
  if ty = 22 then (match gs[posG gs ga]? with
    | some m => if hitG gs ga = true then (match m.due with | some _ => gs.set (posG gs ga) (hushM m) | none => gs) else gs
    | none => gs)
  else if ty = 17 then (if ga = 0 then askAll gs gs.length mx now draw else if hitG gs ga = true then askG gs (posG gs ga) mx now draw else gs)
  else gs
theorem hearBad (w : World) {B h : Nat} {gs : List Gm} {v : Value} {ws : List Gp} (o : IsHg w B h gs v ws) (ty mx ga now draw : Int) (hbad : ¬ okM ty mx) (hB : B ≤ w.heap.size) :
    Calls Try.prog 16 #[.pointer (some ⟨h, 0, none⟩), .agg #[.int .i64 ty, .int .i64 mx, .int .u32 ga], .int .i64 now, .int .i64 draw] w fun e w' => StP w B h gs v e w' := by
  have HO := Lib.hid o
  have HE := Lib.hid (fun V : World => igEncBad V ty mx ga (by unfold okM at hbad; omega))
  have B0 := Lib.hid (al (rf w) (.cells #[.int .i64 ty, .int .i64 mx, .int .u32 ga] 27))
  clear o hbad
  go_enter Try.func16, Try.ntmps16
  go_wp2_with fail
  refine (HE.out _).mono ?_
  rintro e w1 ⟨rfl, b1⟩
  have B1 := Lib.hid (nx B0.out b1)
  go_wp2
  go_end0
  exact ⟨_, rfl, HO.out.nx B1.out, B1.out.mono hB, KeepT.of_below B1.out (Nat.le_refl _)⟩
set_option maxRecDepth 10000 in
set_option maxHeartbeats 3200000 in
theorem hearK (w : World) {B h : Nat} {gs : List Gm} {v : Value} {ws : List Gp} (o : IsHg w B h gs v ws) (hs : SortG gs) (hn : gs.length ≤ 16) (ty mx ga now draw : Int) (hok : okM ty mx) (g0 : 0 ≤ ga) (g1 : ga ≤ 4294967295) (h0 : 0 ≤ now) (h1 : now ≤ 1000000000000) (d1 : draw ≤ 9223372036854775807) (d0 : -9223372036854775808 ≤ draw) (hB : B ≤ w.heap.size) :
    Calls Try.prog 16 #[.pointer (some ⟨h, 0, none⟩), .agg #[.int .i64 ty, .int .i64 mx, .int .u32 ga], .int .i64 now, .int .i64 draw] w fun e w' => StP w B h (hearG gs ty mx ga now draw) v e w' := by
  obtain ⟨t0, t1, m0, m1⟩ := hok
  have HO := Lib.hid o
  have HE := Lib.hid (fun V : World => igEncOk V ty mx ga t0 t1 m0 m1 g0 g1)
  have HS := Lib.hid hs
  have BX := Lib.hid (Blk.new w 27 #[.int .i64 ty, .int .i64 mx, .int .u32 ga])
  have B0 := Lib.hid (al (rf w) (.cells #[.int .i64 ty, .int .i64 mx, .int .u32 ga] 27))
  have hl := o.mat.len
  obtain ⟨A, c, hv, hnc⟩ := o.own.form
  obtain ⟨n, hnn⟩ : ∃ n, ws.length = n := ⟨_, rfl⟩
  rw [hnn] at hv hnc hl
  subst hv
  have HN := Lib.hid hnn
  have HL := Lib.hid hl
  have hn16 : n ≤ 16 := by omega
  clear o hs hnn hl hn
  obtain ⟨p, hp⟩ : ∃ p, posG gs ga = p := ⟨_, rfl⟩
  obtain ⟨ht, hh⟩ : ∃ ht, hitG gs ga = ht := ⟨_, rfl⟩
  have hplt : ht = true → p < n := fun e => by have := posG_lt (hh.trans e); rw [hp, ← HL.out] at this; exact this
  have hFD : ∀ V : World, Below w.heap.size w V → Calls Try.prog 32 #[.pointer (some ⟨h, 0, none⟩), .int .u32 ga] V fun e w' => e = .returned (.tuple #[.int .i64 p, .bool ht]) ∧ Below V.heap.size V w' := fun V hV => by
    have := findK V (HO.out.nx hV) HS.out (by have := HL.out; omega) ga
    rw [hp, hh] at this
    exact this
  have HFD := Lib.hid hFD
  have hsame : ∀ V, Below w.heap.size w V → StP w B h gs (.slice A n c) (.returned (.tuple #[])) V := fun V hV => ⟨_, rfl, HO.out.nx hV, hV.mono hB, KeepT.of_below hV (Nat.le_refl _)⟩
  have HSM := Lib.hid hsame
  unfold hearG
  rw [hp, hh]
  clear hFD hsame hp hh
  by_cases c22 : ty = 22
  · subst c22
    rw [if_pos rfl]
    have HT := Lib.hid hplt
    clear hplt
    cases ht with
    | false =>
      have e1 : (match gs[p]? with | some m => if (false = true) then (match m.due with | some _ => gs.set p (hushM m) | none => gs) else gs | none => gs) = gs := by
        split
        · rw [if_neg (by simp)]
        · rfl
      rw [e1]
      clear e1
      go_enter Try.func16, Try.ntmps16
      go_wp2_with fail
      refine (HE.out _).mono ?_
      rintro e w1 ⟨A1, c1, rfl, _, _, b1⟩
      have B1 := Lib.hid (nx B0.out b1)
      have BX1 := Lib.hid (BX.out.nx b1)
      have m2 : w1.cell? ⟨w.heap.size, 2, none⟩ = some (.int .u32 ga) := BX1.out.cell 2
      clear b1
      go_wp2_with fail
      refine (HFD.out _ B1.out).mono ?_
      rintro e w2 ⟨rfl, b2⟩
      have B2 := Lib.hid (nx B1.out b2)
      have n0 : w2.cell? ⟨w.heap.size, 0, none⟩ = some (.int .i64 22) := (BX1.out.nx b2).cell 0
      clear m2 b2
      go_wp2
      go_end0
      exact HSM.out _ B2.out
    | true =>
      have hpl := HT.out rfl
      obtain ⟨m, hm⟩ : ∃ m, gs[p]? = some m := ⟨_, List.getElem?_eq_getElem (by rw [← HL.out]; exact hpl)⟩
      rw [hm]
      show Calls _ _ _ _ fun e w' => StP w B h (if true = true then (match m.due with | some _ => gs.set p (hushM m) | none => gs) else gs) _ e w'
      rw [if_pos rfl]
      obtain ⟨r, hr⟩ := HO.out.mat.has hm
      have HR := Lib.hid hr
      have HM := Lib.hid hm
      have HP := Lib.hid (HO.out.mat.at_ p r m hr hm)
      obtain ⟨g, hA, _, _, _, _⟩ := OwnL.cells HO.out.own hr
      subst hA
      have j0 : (0 : Int) ≤ p := by omega
      have j1 : (p : Int) < n := by omega
      have hdu : (r.p = none ∧ m.due = none) ∨ ∃ y s, r.p = some ⟨s, 0, none⟩ ∧ m.due = some y := by
        have hp := HP.out.2
        cases hd : m.due with
        | none => rw [hd] at hp; exact .inl ⟨hp, rfl⟩
        | some y => rw [hd] at hp; obtain ⟨s, h1, h2⟩ := hp; exact .inr ⟨y, s, h1, rfl⟩
      clear hr hm
      rcases hdu with ⟨hp, hd⟩ | ⟨y, s, hp, hd⟩
      · rw [hd]
        have HPP := Lib.hid hp
        clear hp hd
        go_enter Try.func16, Try.ntmps16
        go_wp2_with fail
        refine (HE.out _).mono ?_
        rintro e w1 ⟨A1, c1, rfl, _, _, b1⟩
        have B1 := Lib.hid (nx B0.out b1)
        have BX1 := Lib.hid (BX.out.nx b1)
        have m2 : w1.cell? ⟨w.heap.size, 2, none⟩ = some (.int .u32 ga) := BX1.out.cell 2
        clear b1
        go_wp2_with fail
        refine (HFD.out _ B1.out).mono ?_
        rintro e w2 ⟨rfl, b2⟩
        have B2 := Lib.hid (nx B1.out b2)
        have n0 : w2.cell? ⟨w.heap.size, 0, none⟩ = some (.int .i64 22) := (BX1.out.nx b2).cell 0
        have O2 := Lib.hid (HO.out.nx B2.out)
        have c0 : w2.cell? ⟨h, 0, none⟩ = some (.slice (some ⟨g, 0, none⟩) n c) := O2.out.host.cell 0
        obtain ⟨g', hA, _, _, k1, _⟩ := OwnL.cells O2.out.own HR.out
        have hA : g' = g := by injection hA with hA; injection hA with hA; exact hA.symm
        subst hA
        rw [HPP.out] at k1
        clear m2 b2
        go_wp2
        go_end0
        exact HSM.out _ B2.out
      · rw [hd]
        have HPP := Lib.hid hp
        clear hp hd
        go_enter Try.func16, Try.ntmps16
        go_wp2_with fail
        refine (HE.out _).mono ?_
        rintro e w1 ⟨A1, c1, rfl, _, _, b1⟩
        have B1 := Lib.hid (nx B0.out b1)
        have BX1 := Lib.hid (BX.out.nx b1)
        have m2 : w1.cell? ⟨w.heap.size, 2, none⟩ = some (.int .u32 ga) := BX1.out.cell 2
        clear b1
        go_wp2_with fail
        refine (HFD.out _ B1.out).mono ?_
        rintro e w2 ⟨rfl, b2⟩
        have B2 := Lib.hid (nx B1.out b2)
        have n0 : w2.cell? ⟨w.heap.size, 0, none⟩ = some (.int .i64 22) := (BX1.out.nx b2).cell 0
        have O2 := Lib.hid (HO.out.nx B2.out)
        have c0 : w2.cell? ⟨h, 0, none⟩ = some (.slice (some ⟨g, 0, none⟩) n c) := O2.out.host.cell 0
        obtain ⟨g', hA, _, _, k1, k2⟩ := OwnL.cells O2.out.own HR.out
        have hA : g' = g := by injection hA with hA; injection hA with hA; exact hA.symm
        subst hA
        rw [HPP.out] at k1
        have f1 := O2.out.fro (p * 3 + 1)
        have f2 := O2.out.fro (p * 3 + 2)
        have z2 := B2.out.size
        have hset : StP w B h (gs.set p (hushM m)) (.slice (some ⟨g', 0, none⟩) n c) (.returned (.tuple #[])) ((w2.drew.setCell ⟨g', p * 3 + 1, none⟩ (.pointer none)).setCell ⟨g', p * 3 + 2, none⟩ (.bool false)) := by
          have hd := (rf w2).drew
          have h1 := (O2.out.nx hd).cell HR.out HM.out 1 (by omega) (.pointer none) (r' := { r with p := none }) (m' := { m with due := none }) rfl rfl rfl HP.out.1 rfl (by have := hd.size; omega)
          have hz1 := h1.2.1.size
          have h2 := h1.1.cell (i := p) (r := { r with p := none }) (m := { m with due := none }) (by rw [List.getElem?_set, if_pos rfl, if_pos (List.getElem?_eq_some_iff.1 HR.out).1]) (by rw [List.getElem?_set, if_pos rfl, if_pos (List.getElem?_eq_some_iff.1 HM.out).1]) 2 (by omega) (.bool false) (r' := { r with p := none, o := false }) (m' := hushM m) rfl rfl rfl rfl rfl (by have := hd.size; omega)
          rw [List.set_set, List.set_set] at h2
          exact ⟨_, rfl, h2.1, (((B2.out.trans (hd.mono z2)).mono hB).trans h1.2.1).trans h2.2.1, ((KeepT.of_below (B2.out.trans (hd.mono z2)) (Nat.le_refl _)).trans (h1.2.2.less (by have := hd.size; omega))).trans (h2.2.2.less (by have := hd.size; omega))⟩
        have HSET := Lib.hid hset
        clear m2 b2 hset
        go_wp2
        go_region
        go_wp2
        go_end0
        exact HSET.out
  · rw [if_neg c22]
    by_cases c17 : ty = 17
    · subst c17
      rw [if_pos rfl]
      have HT := Lib.hid hplt
      clear hplt
      by_cases hz : ga = 0
      · subst hz
        rw [if_pos rfl]
        go_enter Try.func16, Try.ntmps16
        go_wp2_with fail
        refine (HE.out _).mono ?_
        rintro e w1 ⟨A1, c1, rfl, _, _, b1⟩
        have B1 := Lib.hid (nx B0.out b1)
        have BX1 := Lib.hid (BX.out.nx b1)
        have m2 : w1.cell? ⟨w.heap.size, 2, none⟩ = some (.int .u32 0) := BX1.out.cell 2
        clear b1
        go_wp2_with fail
        refine (HFD.out _ B1.out).mono ?_
        rintro e w2 ⟨rfl, b2⟩
        have B2 := Lib.hid (nx B1.out b2)
        have BX2 := Lib.hid (BX1.out.nx b2)
        have n0 : w2.cell? ⟨w.heap.size, 0, none⟩ = some (.int .i64 17) := BX2.out.cell 0
        have n1 : w2.cell? ⟨w.heap.size, 1, none⟩ = some (.int .i64 mx) := BX2.out.cell 1
        have n2 : w2.cell? ⟨w.heap.size, 2, none⟩ = some (.int .u32 0) := BX2.out.cell 2
        have O2 := Lib.hid (HO.out.nx B2.out)
        have c0 : w2.cell? ⟨h, 0, none⟩ = some (.slice A n c) := O2.out.host.cell 0
        clear m2 b2
        go_wp2
        go_loopw [77] (fun iv wr => ∃ (k : Nat) (wsk : List Gp), iv = .int .i64 k ∧ k ≤ n ∧ Hid (IsHg wr B h (askAll gs k mx now draw) (.slice A n c) wsk) ∧ Hid (Blk wr w.heap.size 27 #[.int .i64 17, .int .i64 mx, .int .u32 0]) ∧ Hid (Below B w wr) ∧ Hid (KeepT w.heap.size [40, 77] w wr)) (fun iv _ => n - (intOf iv).toNat)
        case atStart => exact ⟨0, ws, rfl, Nat.zero_le _, O2.out, BX2.out, B2.out.mono hB, KeepT.of_below B2.out (Nat.le_refl _)⟩
        case round =>
          clear n0 n1 n2 c0
          obtain ⟨k, wsk, rfl, hk, Ok, Xk, Bk, Kk⟩ := hrel
          have zk := Bk.out.size
          by_cases hkn : k < n
          · have k0 : (0 : Int) ≤ k := by omega
            have k1 : (k : Int) < n := by omega
            have q0 : wr.cell? ⟨w.heap.size, 0, none⟩ = some (.int .i64 17) := Xk.out.cell 0
            have q1 : wr.cell? ⟨w.heap.size, 1, none⟩ = some (.int .i64 mx) := Xk.out.cell 1
            have q2 : wr.cell? ⟨w.heap.size, 2, none⟩ = some (.int .u32 0) := Xk.out.cell 2
            have AK := Lib.hid (askK wr Ok.out k (by rw [askAll_len, ← HL.out]; exact hkn) (by rw [askAll_len, ← HL.out]; exact hn16) 17 mx 0 now draw m0 m1 h0 h1 d1 d0 (by omega))
            go_wp2_with fail
            refine AK.out.mono ?_
            rintro e w3 ⟨ws3, rfl, o3, b3, k3⟩
            rw [← askAll_succ] at o3
            have O3 := Lib.hid o3
            have X3 := Lib.hid (k3.blk_ Xk.out (by decide))
            have B3 := Lib.hid (Bk.out.trans b3)
            have K3 := Lib.hid (Kk.out.trans (k3.less zk))
            clear o3 b3 k3 AK q0 q1 q2
            go_wp2
            go_roundw
            case rel => exact ⟨k + 1, ws3, by go_num, by omega, O3.out, X3.out, B3.out, K3.out⟩
            case measure => simp [intOf]; omega
          · obtain rfl : k = n := by omega
            have hE : StP w B h (askAll gs gs.length mx now draw) (.slice A k c) (.returned (.tuple #[])) wr := by
              rw [← HL.out]
              exact ⟨_, rfl, Ok.out, Bk.out, Kk.out⟩
            have HEE := Lib.hid hE
            clear hE
            go_wp2
            go_end0
            exact HEE.out
      · rw [if_neg hz]
        have hz' : (ga == 0) = false := by simpa using hz
        cases ht with
        | false =>
          rw [if_neg (by simp)]
          clear hz
          go_enter Try.func16, Try.ntmps16
          go_wp2_with fail
          refine (HE.out _).mono ?_
          rintro e w1 ⟨A1, c1, rfl, _, _, b1⟩
          have B1 := Lib.hid (nx B0.out b1)
          have BX1 := Lib.hid (BX.out.nx b1)
          have m2 : w1.cell? ⟨w.heap.size, 2, none⟩ = some (.int .u32 ga) := BX1.out.cell 2
          clear b1
          go_wp2_with fail
          refine (HFD.out _ B1.out).mono ?_
          rintro e w2 ⟨rfl, b2⟩
          have B2 := Lib.hid (nx B1.out b2)
          have BX2 := Lib.hid (BX1.out.nx b2)
          have n0 : w2.cell? ⟨w.heap.size, 0, none⟩ = some (.int .i64 17) := BX2.out.cell 0
          have n1 : w2.cell? ⟨w.heap.size, 1, none⟩ = some (.int .i64 mx) := BX2.out.cell 1
          have n2 : w2.cell? ⟨w.heap.size, 2, none⟩ = some (.int .u32 ga) := BX2.out.cell 2
          have O2 := Lib.hid (HO.out.nx B2.out)
          have c0 : w2.cell? ⟨h, 0, none⟩ = some (.slice A n c) := O2.out.host.cell 0
          clear m2 b2
          go_wp2
          go_end0
          exact HSM.out _ B2.out
        | true =>
          rw [if_pos rfl]
          have hpl := HT.out rfl
          clear hz
          go_enter Try.func16, Try.ntmps16
          go_wp2_with fail
          refine (HE.out _).mono ?_
          rintro e w1 ⟨A1, c1, rfl, _, _, b1⟩
          have B1 := Lib.hid (nx B0.out b1)
          have BX1 := Lib.hid (BX.out.nx b1)
          have m2 : w1.cell? ⟨w.heap.size, 2, none⟩ = some (.int .u32 ga) := BX1.out.cell 2
          clear b1
          go_wp2_with fail
          refine (HFD.out _ B1.out).mono ?_
          rintro e w2 ⟨rfl, b2⟩
          have B2 := Lib.hid (nx B1.out b2)
          have BX2 := Lib.hid (BX1.out.nx b2)
          have n0 : w2.cell? ⟨w.heap.size, 0, none⟩ = some (.int .i64 17) := BX2.out.cell 0
          have n1 : w2.cell? ⟨w.heap.size, 1, none⟩ = some (.int .i64 mx) := BX2.out.cell 1
          have n2 : w2.cell? ⟨w.heap.size, 2, none⟩ = some (.int .u32 ga) := BX2.out.cell 2
          have O2 := Lib.hid (HO.out.nx B2.out)
          have c0 : w2.cell? ⟨h, 0, none⟩ = some (.slice A n c) := O2.out.host.cell 0
          clear m2 b2
          have z2 := B2.out.size
          have AK := Lib.hid (askK w2 O2.out p (by rw [← HL.out]; exact hpl) (by rw [← HL.out]; exact hn16) 17 mx ga now draw m0 m1 h0 h1 d1 d0 (by omega))
          go_wp2_with fail
          refine AK.out.mono ?_
          rintro e w3 ⟨ws3, rfl, o3, b3, k3⟩
          have HEE : Hid (StP w B h (askG gs p mx now draw) (.slice A n c) (.returned (.tuple #[])) w3) := ⟨_, rfl, o3, (B2.out.mono hB).trans b3, (KeepT.of_below B2.out (Nat.le_refl _)).trans (k3.less z2)⟩
          clear o3 b3 k3 AK
          go_wp2
          go_end0
          exact HEE.out
    · rw [if_neg c17]
      have e22 : (ty == 22) = false := by simpa using c22
      have e17 : (ty == 17) = false := by simpa using c17
      clear c22 c17 hplt
      go_enter Try.func16, Try.ntmps16
      go_wp2_with fail
      refine (HE.out _).mono ?_
      rintro e w1 ⟨A1, c1, rfl, _, _, b1⟩
      have B1 := Lib.hid (nx B0.out b1)
      have BX1 := Lib.hid (BX.out.nx b1)
      have m2 : w1.cell? ⟨w.heap.size, 2, none⟩ = some (.int .u32 ga) := BX1.out.cell 2
      clear b1
      go_wp2_with fail
      refine (HFD.out _ B1.out).mono ?_
      rintro e w2 ⟨rfl, b2⟩
      have B2 := Lib.hid (nx B1.out b2)
      have BX2 := Lib.hid (BX1.out.nx b2)
      have n0 : w2.cell? ⟨w.heap.size, 0, none⟩ = some (.int .i64 ty) := BX2.out.cell 0
      have n1 : w2.cell? ⟨w.heap.size, 1, none⟩ = some (.int .i64 mx) := BX2.out.cell 1
      have n2 : w2.cell? ⟨w.heap.size, 2, none⟩ = some (.int .u32 ga) := BX2.out.cell 2
      have O2 := Lib.hid (HO.out.nx B2.out)
      have c0 : w2.cell? ⟨h, 0, none⟩ = some (.slice A n c) := O2.out.host.cell 0
      clear m2 b2
      go_wp2
      go_end0
      exact HSM.out _ B2.out
end Go.Proofs.Ytjkmkafceeblpaa
