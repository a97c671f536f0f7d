/-
  Groups: Leave of a Host of many groups.
-/
import Derived.Test.YtjkmkafceeblpaaHg2
set_option linter.unusedVariables false
namespace Go.Proofs.Ytjkmkafceeblpaa
open Go.RowKit

theorem takeWhile_at {α : Type} (p : α → Bool) (l : List α) (t : Nat) (x : α) (h : l[t]? = some x) (hp : p x = false) : (l.takeWhile p).length ≤ t := by
  induction l generalizing t with
  | nil => simp at h
  | cons y l ih =>
    rw [List.takeWhile_cons]
    cases t with
    | zero =>
      simp only [List.getElem?_cons_zero, Option.some.injEq] at h
      subst h
      rw [hp]
      simp
    | succ t =>
      rw [List.getElem?_cons_succ] at h
      split
      · rw [List.length_cons]; have := ih t h; omega
      · simp
theorem posG_lt {gs : List Gm} {a : Int} (h : hitG gs a = true) : posG gs a < gs.length := by
  unfold hitG at h
  rw [List.any_eq_true] at h
  obtain ⟨x, hx, he⟩ := h
  obtain ⟨t, ht⟩ := List.getElem?_of_mem hx
  have hxa : x = a := by simpa using he
  have h1 := takeWhile_at (fun x => decide (x < a)) (keysG gs) t x ht (by rw [hxa]; simp)
  have h2 := (List.getElem?_eq_some_iff.1 ht).1
  rw [keysG, List.length_map] at h2
  unfold posG
  omega
def leaveG (gs : List Gm) (a : Int) : List Gm × List (Int × Int × Int) × Int :=
  if hitG gs a = true then (gs.take (posG gs a) ++ gs.drop (posG gs a + 1), (if (gs[posG gs a]?.map Gm.ours) = some true then [(23, 0, a)] else []), 0) else (gs, [], 7)
theorem OwnL.cells {w : World} {base : Nat} {A : Option Addr} {n c : Nat} {ws : List Gp} (h : OwnL w base (.slice A n c) ws) {i : Nat} {r : Gp} (hi : ws[i]? = some r) : ∃ g, A = some ⟨g, 0, none⟩ ∧ base ≤ g ∧ w.cell? ⟨g, i * 3, none⟩ = some (.int .u32 r.a) ∧ w.cell? ⟨g, i * 3 + 1, none⟩ = some (.pointer r.p) ∧ w.cell? ⟨g, i * 3 + 2, none⟩ = some (.bool r.o) := by
  obtain ⟨g, c', hv, _, hb, _, hc⟩ := h.at_ hi
  injection hv with h1 _ _
  exact ⟨g, h1, hb, hc 0 _ rfl, hc 1 _ rfl, hc 2 _ rfl⟩
set_option maxRecDepth 10000 in
set_option maxHeartbeats 1600000 in
theorem leaveK (w : World) {B h : Nat} {gs : List Gm} {v : Value} {ws : List Gp} (o : IsHg w B h gs v ws) (hs : SortG gs) (hn : gs.length ≤ 16) (a : Int) (hB : B ≤ w.heap.size) :
    Calls Try.prog 21 #[.pointer (some ⟨h, 0, none⟩), .int .u32 a] w fun e w' => HgP w B h (leaveG gs a).1 (leaveG gs a).2.1 (leaveG gs a).2.2 e w' := by
  have HO := Lib.hid o
  have HF := Lib.hid (findK w o hs (by omega) a)
  have HL := o.mat.len
  obtain ⟨A, c, hv, hnc⟩ := o.own.form
  have c0 : w.cell? ⟨h, 0, none⟩ = some v := o.host.cell 0
  unfold leaveG
  by_cases hh : hitG gs a = true
  · rw [if_pos hh]
    have hplt := posG_lt hh
    rw [hh] at HF
    obtain ⟨p, hp⟩ : ∃ p, posG gs a = p := ⟨_, rfl⟩
    rw [hp] at HF hplt ⊢
    obtain ⟨m, hm⟩ : ∃ m, gs[p]? = some m := ⟨_, List.getElem?_eq_getElem hplt⟩
    obtain ⟨r, hr⟩ := o.mat.has hm
    have hro := (o.mat.at_ p r m hr hm).1
    subst hv
    obtain ⟨q, hq⟩ : ∃ q, ws.length = q + 1 := ⟨ws.length - 1, by omega⟩
    have HQ := Lib.hid hq
    rw [hq] at c0 hnc HO
    rw [hm]
    have hpq : p ≤ q := by omega
    have hpl : p ≤ gs.length := by omega
    have HR := Lib.hid hr
    have HM := Lib.hid hro
    have j0 : (0 : Int) ≤ p := by omega
    have j1 : (p : Int) < (q : Int) + 1 := by omega
    have j2 : (p : Int) < ((q + 1 : Nat) : Int) := by omega
    have hqn : q ≤ 1000000 := by omega
    clear hp hh hm hr hro hq HL hplt o hs hnc
    obtain ⟨g, hA, _, _, _, _⟩ := OwnL.cells HO.out.own HR.out
    subst hA
    have hcase : m.ours = true ∨ m.ours = false := by cases m.ours <;> simp
    have hms : ((some m).map Gm.ours) = some m.ours := rfl
    rw [hms]
    clear hms
    rcases hcase with hou | hou
    all_goals
     rw [hou] at HM ⊢
     clear hou
     go_enter Try.func21, Try.ntmps21
     go_wp2_with fail
     refine HF.out.mono ?_
     rintro e w1 ⟨rfl, b1⟩
     have O1 := Lib.hid (HO.out.nx b1)
     have c1 : w1.cell? ⟨h, 0, none⟩ = some (.slice (some ⟨g, 0, none⟩) (q + 1) c) := O1.out.host.cell 0
     obtain ⟨g', hA, _, _, _, k2⟩ := OwnL.cells O1.out.own HR.out
     rw [HM.out] at k2
     injection hA with hA
     injection hA with hA
     subst hA
     have z1 := b1.size
     have BW1 := Lib.hid b1
     have DEL := Lib.hid (delC w1 B (.slice (some ⟨g, 0, none⟩) (q + 1) c) q p (flat ws) (by have h := O1.out.own; unfold OwnL at h; rw [HQ.out] at h; exact h) (flat_one ws) hpq hqn)
     clear c0 b1 HF
     go_wp2_with fail
     refine DEL.out.mono ?_
     rintro e w5 ⟨v5, rfl, own5, gr5, at5⟩
     obtain ⟨A5, k5, rfl⟩ := own_slice own5
     have K5 : KeepT w1.heap.size [77] w1 w5 := KeepT.of_row gr5 (by have h := O1.out.own; unfold OwnL at h; rw [HQ.out] at h; exact h) (.inr (by simp)) (Nat.le_refl _)
     have H5 : Blk w5 h 40 #[.slice (some ⟨g, 0, none⟩) (q + 1) c] := K5.blk_ O1.out.host (by decide)
     have c5 : w5.cell? ⟨h, 0, none⟩ = some (.slice (some ⟨g, 0, none⟩) (q + 1) c) := H5.cell 0
     have f5 : w5.frozen? ⟨h, 0, none⟩ = false := H5.frozen 0
     have HI := O1.out.put (by omega) gr5 (show OwnL w5 B (.slice A5 q k5) (ws.take p ++ ws.drop (p + 1)) by
         unfold OwnL
         rw [← delK_flat, show (ws.take p ++ ws.drop (p + 1)).length = q by rw [List.length_append, List.length_take, List.length_drop, HQ.out]; omega]
         exact own5) ((O1.out.mat.keep K5 (by decide)).del hpl)
     obtain ⟨I6, b6, k6, _⟩ := HI
     have I6' := Lib.hid I6
     have B6 : Hid (Below B w (w5.setCell ⟨h, 0, none⟩ (.slice A5 q k5))) := (BW1.out.mono hB).trans b6
     have K6 : Hid (KeepT w.heap.size [40, 77] w (w5.setCell ⟨h, 0, none⟩ (.slice A5 q k5))) := (KeepT.of_below BW1.out (Nat.le_refl _)).trans (k6.less z1)
     have z6 : Hid (w.heap.size ≤ (w5.setCell ⟨h, 0, none⟩ (.slice A5 q k5)).heap.size) := B6.out.size
     clear I6 b6 k6 H5 K5 own5 gr5 at5 DEL c1
     go_wp2
     refine bodyPost_ret (results_tmp2 rfl _ _ _) rfl ?_
     first
       | exact ⟨_, _, _, rfl, OutM.nil _ _, I6'.out, B6.out, K6.out⟩
       | exact ⟨_, _, _, rfl, own_lit _ #[.int .i64 23, .int .i64 0, .int .u32 a] 1 (by simp) (by have h9 := z6.out; simpa using h9) (by unfold maxLen; omega) rfl, I6'.out.nx (al (rf _) _), B6.out.trans ((al (rf _) _).mono (by have := B6.out.size; omega)), K6.out.trans (KeepT.of_below (al (rf _) _) z6.out)⟩
  · rw [if_neg hh]
    have hf : hitG gs a = false := by simpa using hh
    rw [hf] at HF
    clear hh hf
    go_enter Try.func21, Try.ntmps21
    go_wp2_with fail
    refine HF.out.mono ?_
    rintro e w1 ⟨rfl, b1⟩
    go_wp2
    refine bodyPost_ret (results_tmp2 rfl _ _ _) rfl ?_
    exact HgP.same HO.out b1 hB
end Go.Proofs.Ytjkmkafceeblpaa
