/-
  Groups: stores into a Host's row; a group that is asked.
-/
import Derived.Test.YtjkmkafceeblpaaHg3
set_option linter.unusedVariables false
namespace Go.Proofs.Ytjkmkafceeblpaa
open Go.RowKit

theorem flat_set {ws : List Gp} {i : Nat} {r r' : Gp} (hr : ws[i]? = some r) (j : Nat) (hj : j < 3) (u : Value) (h : r.cs.set j u = r'.cs) : (flat ws).set (i * 3 + j) u = flat (ws.set i r') := by
  induction ws generalizing i with
  | nil => simp at hr
  | cons q ws ih =>
    unfold flat at ih ⊢
    cases i with
    | zero =>
      simp only [List.getElem?_cons_zero, Option.some.injEq] at hr
      subst hr
      rw [Nat.zero_mul, Nat.zero_add, List.flatMap_cons, List.set_append, if_pos (by rw [cs_len]; exact hj), h, List.set_cons_zero, List.flatMap_cons]
    | succ i =>
      rw [List.getElem?_cons_succ] at hr
      rw [List.flatMap_cons, List.set_append, if_neg (by rw [cs_len]; omega), cs_len, show (i + 1) * 3 + j - 3 = i * 3 + j by omega, ih hr, List.set_cons_succ, List.flatMap_cons]
theorem OwnL.set_ {w : World} {B g n c : Nat} {ws : List Gp} (h : OwnL w B (.slice (some ⟨g, 0, none⟩) n c) ws) {i : Nat} {r r' : Gp} (hr : ws[i]? = some r) (j : Nat) (hj : j < 3) (u : Value) (he : r.cs.set j u = r'.cs) : OwnL (w.setCell ⟨g, i * 3 + j, none⟩ u) B (.slice (some ⟨g, 0, none⟩) n c) (ws.set i r') := by
  have hn : n = ws.length := by
    rcases h.2 with ⟨h1, _⟩ | ⟨_, _, _, h1, _⟩
    · injection h1 with h1; cases h1
    · injection h1
  subst hn
  have := (World.ownsRow.stored h (i * 3 + j) u).1
  unfold OwnL
  rw [List.length_set, ← flat_set hr j hj u he]
  exact this
theorem Gmat.set {w : World} {ws : List Gp} {gs : List Gm} (h : Gmat w ws gs) {i : Nat} {r r' : Gp} {m m' : Gm} (hr : ws[i]? = some r) (hm : gs[i]? = some m) (h1 : r'.a = r.a) (h2 : m'.a = m.a) (h3 : r'.o = m'.ours) (h4 : PtIs w r'.p m'.due) : Gmat w (ws.set i r') (gs.set i m') := by
  have hk := h.key hr hm
  refine ⟨?_, fun k x y hx hy => ?_⟩
  · rw [List.map_set, List.map_set, h1, h2, hk, h.keys]
  · rw [List.getElem?_set] at hx hy
    split at hx
    · rw [if_pos (by assumption)] at hy
      split at hx
      · split at hy
        · injection hx with hx; injection hy with hy
          subst hx hy
          exact ⟨h3, h4⟩
        · cases hy
      · cases hx
    · rw [if_neg (by assumption)] at hy
      exact h.at_ k x y hx hy
-- one cell of one group
theorem IsHg.cell {w : World} {B h g n c : Nat} {gs : List Gm} {ws : List Gp} (o : IsHg w B h gs (.slice (some ⟨g, 0, none⟩) n c) ws) {i : Nat} {r r' : Gp} {m m' : Gm} (hr : ws[i]? = some r) (hm : gs[i]? = some m) (j : Nat) (hj : j < 3) (u : Value) (he : r.cs.set j u = r'.cs)
    (h1 : r'.a = r.a) (h2 : m'.a = m.a) (h3 : r'.o = m'.ours) (h4 : PtIs w r'.p m'.due) (hB : B ≤ w.heap.size) :
    IsHg (w.setCell ⟨g, i * 3 + j, none⟩ u) B h (gs.set i m') (.slice (some ⟨g, 0, none⟩) n c) (ws.set i r') ∧ Below B w (w.setCell ⟨g, i * 3 + j, none⟩ u) ∧ KeepT w.heap.size [40, 77] w (w.setCell ⟨g, i * 3 + j, none⟩ u) := by
  have hn : ∃ cur, Blk w g 77 cur ∧ B ≤ g := by
    rcases o.own.2 with ⟨h1, _⟩ | ⟨g', _, cur, h1, hb, hg, _⟩
    · injection h1 with h1; cases h1
    · injection h1 with h1; injection h1 with h1; injection h1 with h1; subst h1; exact ⟨_, hg, hb⟩
  obtain ⟨cur, hg, hb⟩ := hn
  have k : KeepT w.heap.size [77] w (w.setCell ⟨g, i * 3 + j, none⟩ u) := KeepT.of_set hg u (.inr (by simp)) (Nat.le_refl _)
  refine ⟨⟨k.blk_ o.host (by decide), o.own.set_ hr j hj u he, (o.mat.set hr hm h1 h2 h3 h4).keep k (by decide), o.hb⟩, (Below.refl B w).setCell (p := ⟨g, i * 3 + j, none⟩) hb u, k.mono (by simp)⟩
theorem IsHg.fro {w : World} {B h g n c : Nat} {gs : List Gm} {ws : List Gp} (o : IsHg w B h gs (.slice (some ⟨g, 0, none⟩) n c) ws) (i : Nat) : w.frozen? ⟨g, i, none⟩ = false := by
  rcases o.own.2 with ⟨h1, _⟩ | ⟨g', _, cur, h1, hb, hg, _⟩
  · injection h1 with h1; cases h1
  · injection h1 with h1; injection h1 with h1; injection h1 with h1; subst h1; exact Blk.frozen hg i
def mostG (mx : Int) : Int := if mx = 0 then 100 else mx
def askM (m : Gm) (x : Int) : Gm := match m.due with
  | none => { m with due := some x }
  | some y => if x < y then { m with due := some x } else m
def askG (gs : List Gm) (i : Nat) (mx now draw : Int) : List Gm := match gs[i]? with
  | some m => gs.set i (askM m (dueV now draw (mostG mx) i))
  | none => gs
def StP (w : World) (B h : Nat) (gs : List Gm) (v : Value) (e : Ending) (w' : World) : Prop :=
  ∃ ws, e = .returned (.tuple #[]) ∧ IsHg w' B h gs v ws ∧ Below B w w' ∧ KeepT w.heap.size [40, 77] w w'
theorem set_same {α : Type} (l : List α) (i : Nat) (x : α) (h : l[i]? = some x) : l.set i x = l := by
  apply List.ext_getElem?
  intro k
  rw [List.getElem?_set]
  split
  · rename_i hik; subst hik
    rw [if_pos (List.getElem?_eq_some_iff.1 h).1, h]
  · rfl
set_option maxRecDepth 10000 in
set_option maxHeartbeats 1600000 in
theorem askK (w : World) {B h : Nat} {gs : List Gm} {v : Value} {ws : List Gp} (o : IsHg w B h gs v ws) (i : Nat) (hi : i < gs.length) (hn : gs.length ≤ 16) (ty mx ga now draw : Int) (hm0 : 0 ≤ mx) (hm1 : mx ≤ 255) (h0 : 0 ≤ now) (h1 : now ≤ 1000000000000) (d1 : draw ≤ 9223372036854775807) (d0 : -9223372036854775808 ≤ draw) (hB : B ≤ w.heap.size) :
    Calls Try.prog 36 #[.pointer (some ⟨h, 0, none⟩), .int .i64 i, .agg #[.int .i64 ty, .int .i64 mx, .int .u32 ga], .int .i64 now, .int .i64 draw] w fun e w' => StP w B h (askG gs i mx now draw) v e w' := by
  obtain ⟨m, hm⟩ : ∃ m, gs[i]? = some m := ⟨_, List.getElem?_eq_getElem hi⟩
  obtain ⟨r, hr⟩ := o.mat.has hm
  have hro := o.mat.at_ i r m hr hm
  obtain ⟨A, c, rfl, hnc⟩ := o.own.form
  obtain ⟨n, hnn⟩ : ∃ n, ws.length = n := ⟨_, rfl⟩
  have hin : i < n := by have := o.mat.len; omega
  rw [hnn] at o hnc ⊢
  obtain ⟨g, rfl, _, _, _, _⟩ := OwnL.cells o.own hr
  have e0 : askG gs i mx now draw = gs.set i (askM m (dueV now draw (mostG mx) i)) := by unfold askG; rw [hm]
  rw [e0]
  obtain ⟨mo, hmo⟩ : ∃ mo, mostG mx = mo := ⟨_, rfl⟩
  have mo0 : 1 ≤ mo := by rw [← hmo]; unfold mostG; split <;> omega
  have mo1 : mo ≤ 255 := by rw [← hmo]; unfold mostG; split <;> omega
  have bw := al (rf w) (.cells #[.int .i64 ty, .int .i64 mx, .int .u32 ga] 27)
  have HO := Lib.hid (o.nx bw)
  have BW := Lib.hid bw
  have hcm : (w.alloc (.cells #[.int .i64 ty, .int .i64 mx, .int .u32 ga] 27)).cell? ⟨w.heap.size, 1, none⟩ = some (.int .i64 mx) := (Blk.new w _ _).cell 1
  have c0 : (w.alloc (.cells #[.int .i64 ty, .int .i64 mx, .int .u32 ga] 27)).cell? ⟨h, 0, none⟩ = some (.slice (some ⟨g, 0, none⟩) n c) := HO.out.host.cell 0
  have DU := Lib.hid (fun V : World => dueK now draw mo i V h0 h1 mo0 mo1 (by omega) d1 d0)
  rw [hmo]
  obtain ⟨dv, hdv⟩ : ∃ dv, dueV now draw mo i = dv := ⟨_, rfl⟩
  rw [hdv] at DU ⊢
  have HR := Lib.hid hr
  have HM := Lib.hid hm
  have j0 : (0 : Int) ≤ i := by omega
  have j1 : (i : Int) < n := by omega
  have hrd : r.o = m.ours := hro.1
  have HRD := Lib.hid hrd
  have HPT := Lib.hid hro.2
  have hmq : (mx = 0 ∧ mo = 100) ∨ (¬ mx = 0 ∧ mo = mx) := by rw [← hmo]; unfold mostG; by_cases h : mx = 0 <;> simp [h]
  clear o hro bw hm hr e0 hmo hdv hrd hnn hnc
  rcases hmq with ⟨rfl, rfl⟩ | ⟨hz, rfl⟩
  all_goals
    go_enter Try.func36, Try.ntmps36
    go_wp2_with fail
    refine (DU.out _).mono ?_
    rintro e w1 ⟨t, rfl, ht, htb, b1⟩
    have B1 := Lib.hid (nx BW.out b1)
    have O1 := Lib.hid (HO.out.nx b1)
    have HT := Lib.hid ht
    obtain ⟨g', hA, _, _, k1, _⟩ := OwnL.cells O1.out.own HR.out
    have hA : g' = g := by injection hA with hA; injection hA with hA; exact hA.symm
    subst hA
    have f1 := O1.out.fro (i * 3 + 1)
    have ct : w1.cell? ⟨t, 0, none⟩ = some (.int .i64 dv) := Blk.cell ht 0
    have ctd : w1.drew.cell? ⟨t, 0, none⟩ = some (.int .i64 dv) := Blk.cell ht 0
    have k1d : w1.drew.cell? ⟨g', i * 3 + 1, none⟩ = some (.pointer r.p) := k1
    have z1 := B1.out.size
    have hdu : (r.p = none ∧ m.due = none) ∨ ∃ y s, r.p = some ⟨s, 0, none⟩ ∧ m.due = some y ∧ Blk w1 s 3 #[.int .i64 y] := by
      have hp := (O1.out.mat.at_ i r m HR.out HM.out).2
      cases hd : m.due with
      | none => rw [hd] at hp; exact .inl ⟨hp, rfl⟩
      | some y => rw [hd] at hp; obtain ⟨s, h1, h2⟩ := hp; exact .inr ⟨y, s, h1, rfl, h2⟩
    have hset : ∀ W, W = w1.drew → StP w B h (gs.set i { m with due := some dv }) (.slice (some ⟨g', 0, none⟩) n c) (.returned (.tuple #[])) (W.setCell ⟨g', i * 3 + 1, none⟩ (.pointer (some ⟨t, 0, none⟩))) := by
      rintro W rfl
      have hd := (rf w1).drew
      have h := (O1.out.nx hd).cell HR.out HM.out 1 (by omega) (.pointer (some ⟨t, 0, none⟩)) (r' := { r with p := some ⟨t, 0, none⟩ }) (m' := { m with due := some dv }) rfl rfl rfl HRD.out ⟨t, rfl, Blk.nx HT.out hd⟩ (by have := hd.size; omega)
      refine ⟨_, rfl, h.1, ((B1.out.trans (hd.mono z1)).mono hB).trans h.2.1, (KeepT.of_below (B1.out.trans (hd.mono z1)) (Nat.le_refl _)).trans (h.2.2.less (by have := hd.size; omega))⟩
    have HSET := Lib.hid hset
    have hstay : StP w B h gs (.slice (some ⟨g', 0, none⟩) n c) (.returned (.tuple #[])) w1.drew := by
      have hd := (rf w1).drew
      exact ⟨_, rfl, O1.out.nx hd, (B1.out.trans (hd.mono z1)).mono hB, KeepT.of_below (B1.out.trans (hd.mono z1)) (Nat.le_refl _)⟩
    have HSTAY := Lib.hid hstay
    clear ht b1 hset hstay
    rcases hdu with ⟨hp, hd⟩ | ⟨y, s, hp, hd, hs⟩
    · have e1 : askM m dv = { m with due := some dv } := by unfold askM; rw [hd]
      have HE1 := Lib.hid e1
      rw [hp] at k1 k1d
      clear hp hd e1
      go_wp2
      go_region
      go_wp2
      go_end0
      rw [HE1.out]
      exact HSET.out _ rfl
    · rw [hp] at k1 k1d
      have cs : w1.drew.cell? ⟨s, 0, none⟩ = some (.int .i64 y) := Blk.cell hs 0
      by_cases hlt : dv < y
      · have e1 : askM m dv = { m with due := some dv } := by unfold askM; rw [hd]; exact if_pos hlt
        have HE1 := Lib.hid e1
        clear hp hd e1 hs
        go_wp2
        go_region
        go_wp2
        go_end0
        rw [HE1.out]
        exact HSET.out _ rfl
      · have e1 : gs.set i (askM m dv) = gs := by unfold askM; rw [hd]; show gs.set i (if dv < y then _ else m) = gs; rw [if_neg hlt]; exact set_same _ _ _ HM.out
        have HE1 := Lib.hid e1
        clear hp hd e1 hs
        go_wp2
        go_region
        go_wp2
        go_end0
        rw [HE1.out]
        exact HSTAY.out
end Go.Proofs.Ytjkmkafceeblpaa
