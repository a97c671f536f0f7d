/-
  Groups: Join of a Host of many groups.
-/
import Derived.Test.YtjkmkafceeblpaaHg1
set_option linter.unusedVariables false
namespace Go.Proofs.Ytjkmkafceeblpaa
open Go.RowKit

theorem ins_at {α : Type} (l : List α) (p : Nat) (x : α) (hp : p ≤ l.length) (i : Nat) : (l.take p ++ x :: l.drop p)[i]? = if i < p then l[i]? else if i = p then some x else l[i - 1]? := by
  by_cases h1 : i < p
  · rw [if_pos h1, List.getElem?_append_left (by rw [List.length_take]; omega), List.getElem?_take, if_pos h1]
  · rw [if_neg h1, List.getElem?_append_right (by rw [List.length_take]; omega), List.length_take, Nat.min_eq_left hp]
    by_cases h2 : i = p
    · rw [if_pos h2, h2, Nat.sub_self]; rfl
    · rw [if_neg h2, show i - p = (i - 1 - p) + 1 by omega, List.getElem?_cons_succ, List.getElem?_drop, show p + (i - 1 - p) = i - 1 by omega]
theorem del_at {α : Type} (l : List α) (p : Nat) (hp : p ≤ l.length) (i : Nat) : (l.take p ++ l.drop (p + 1))[i]? = if i < p then l[i]? else l[i + 1]? := by
  by_cases h1 : i < p
  · rw [if_pos h1, List.getElem?_append_left (by rw [List.length_take]; omega), List.getElem?_take, if_pos h1]
  · rw [if_neg h1, List.getElem?_append_right (by rw [List.length_take]; omega), List.length_take, Nat.min_eq_left hp, List.getElem?_drop, show p + 1 + (i - p) = i + 1 by omega]
theorem Gmat.ins {w : World} {ws : List Gp} {gs : List Gm} (h : Gmat w ws gs) {p : Nat} (hp : p ≤ gs.length) (r : Gp) (m : Gm) (h1 : r.a = m.a) (h2 : r.o = m.ours) (h3 : PtIs w r.p m.due) : Gmat w (ws.take p ++ r :: ws.drop p) (gs.take p ++ m :: gs.drop p) := by
  refine ⟨?_, fun i x y hx hy => ?_⟩
  · simp only [List.map_append, List.map_cons, List.map_take, List.map_drop, h.keys, h1]
  · rw [ins_at _ _ _ (by rw [h.len]; exact hp)] at hx
    rw [ins_at _ _ _ hp] at hy
    split at hx
    · rw [if_pos (by assumption)] at hy
      exact h.at_ _ x y hx hy
    · rw [if_neg (by assumption)] at hy
      split at hx
      · rw [if_pos (by assumption)] at hy
        injection hx with hx; injection hy with hy
        subst hx hy
        exact ⟨h2, h3⟩
      · rw [if_neg (by assumption)] at hy
        exact h.at_ _ x y hx hy
theorem Gmat.del {w : World} {ws : List Gp} {gs : List Gm} (h : Gmat w ws gs) {p : Nat} (hp : p ≤ gs.length) : Gmat w (ws.take p ++ ws.drop (p + 1)) (gs.take p ++ gs.drop (p + 1)) := by
  refine ⟨?_, fun i x y hx hy => ?_⟩
  · simp only [List.map_append, List.map_take, List.map_drop, h.keys]
  · rw [del_at _ _ (by rw [h.len]; exact hp)] at hx
    rw [del_at _ _ hp] at hy
    split at hx
    · rw [if_pos (by assumption)] at hy
      exact h.at_ _ x y hx hy
    · rw [if_neg (by assumption)] at hy
      exact h.at_ _ x y hx hy
def flatM (ms : List (Int × Int × Int)) : List Value := ms.flatMap fun m => [.int .i64 m.1, .int .i64 m.2.1, .int .u32 m.2.2]
-- messages that are handed out
def OutM (w w' : World) (V : Value) (ms : List (Int × Int × Int)) : Prop := w'.ownsRow w.heap.size 27 3 V ms.length (flatM ms)
theorem OutM.nil (w w' : World) : OutM w w' (.slice none 0 0) [] := World.ownsRow_nil _ _ _ _
def HgP (w : World) (B h : Nat) (gs : List Gm) (ms : List (Int × Int × Int)) (err : Int) (e : Ending) (w' : World) : Prop :=
  ∃ V v ws, e = .returned (.tuple #[V, .int .i64 err]) ∧ OutM w w' V ms ∧ IsHg w' B h gs v ws ∧ Below B w w' ∧ KeepT w.heap.size [40, 77] w w'
def joinG (gs : List Gm) (a now draw : Int) : List Gm × List (Int × Int × Int) × Int :=
  if a < 3758096386 ∨ 4026531840 ≤ a then (gs, [], 1) else if hitG gs a = true then (gs, [], 8) else if 16 ≤ gs.length then (gs, [], 6)
  else (gs.take (posG gs a) ++ ⟨a, some (dueV now draw 10 (posG gs a)), true⟩ :: gs.drop (posG gs a), [(22, 0, a)], 0)
theorem HgP.same {w w' : World} {B h : Nat} {gs : List Gm} {v : Value} {ws : List Gp} {err : Int} (o : IsHg w B h gs v ws) (b : Below w.heap.size w w') (hB : B ≤ w.heap.size) : HgP w B h gs [] err (.returned (.tuple #[.slice none 0 0, .int .i64 err])) w' :=
  ⟨_, v, ws, rfl, OutM.nil _ _, o.nx b, b.mono hB, KeepT.of_below b (Nat.le_refl _)⟩
-- a row of groups put in its place
theorem IsHg.put {w1 w5 : World} {B h : Nat} {gs gs2 : List Gm} {v v5 : Value} {ws ws2 : List Gp} (o : IsHg w1 B h gs v ws) (hB : B ≤ w1.heap.size) (hgr : w1.grownBy w5 v.ownBlock) (hown : OwnL w5 B v5 ws2) (hm : Gmat w5 ws2 gs2) :
    IsHg (w5.setCell ⟨h, 0, none⟩ v5) B h gs2 v5 ws2 ∧ Below B w1 (w5.setCell ⟨h, 0, none⟩ v5) ∧ KeepT w1.heap.size [40, 77] w1 (w5.setCell ⟨h, 0, none⟩ v5) ∧ Blk w5 h 40 #[v] := by
  obtain ⟨A, c, rfl, _⟩ := o.own.form
  have hk : KeepT w1.heap.size [77] w1 w5 := KeepT.of_row hgr o.own (.inr (by simp)) (Nat.le_refl _)
  have hh5 : Blk w5 h 40 #[.slice A ws.length c] := hk.blk_ o.host (by decide)
  have b5 : Below B w1 w5 := (Below.refl _ _).grown hgr hB (fun k hk => (o.own.lt k hk).1)
  have hs : KeepT w5.heap.size [40] w5 (w5.setCell ⟨h, 0, none⟩ v5) := KeepT.of_set hh5 v5 (.inr (by simp)) (Nat.le_refl _)
  refine ⟨⟨by simpa using hh5.set_ 0 v5, hs.own hown (by decide), hm.keep hs (by decide), o.hb⟩, b5.setCell (p := ⟨h, 0, none⟩) o.hb v5, ?_, hh5⟩
  exact (hk.mono (by simp)).trans ((hs.mono (by simp)).less b5.size)
set_option maxRecDepth 10000 in
set_option maxHeartbeats 1600000 in
theorem joinK (w : World) {B h : Nat} {gs : List Gm} {v : Value} {ws : List Gp} (o : IsHg w B h gs v ws) (hs : SortG gs) (hn : gs.length ≤ 16) (a now draw : Int) (h0 : 0 ≤ now) (h1 : now ≤ 1000000000000) (d1 : draw ≤ 9223372036854775807) (d0 : -9223372036854775808 ≤ draw) (hB : B ≤ w.heap.size) :
    Calls Try.prog 14 #[.pointer (some ⟨h, 0, none⟩), .int .u32 a, .int .i64 now, .int .i64 draw] w fun e w' => HgP w B h (joinG gs a now draw).1 (joinG gs a now draw).2.1 (joinG gs a now draw).2.2 e w' := by
  have HO := Lib.hid o
  have HF := Lib.hid (findK w o hs (by omega) a)
  have HL := o.mat.len
  obtain ⟨A, c, hv, hnc⟩ := o.own.form
  have c0 : w.cell? ⟨h, 0, none⟩ = some v := o.host.cell 0
  unfold joinG
  by_cases ha : a < 3758096386 ∨ 4026531840 ≤ a
  · rw [if_pos ha]
    have hc : a < 3758096386 ∨ (¬ a < 3758096386 ∧ 4026531840 ≤ a) := by omega
    clear ha
    rcases hc with ha | ⟨ha, ha2⟩
    all_goals
      go_enter Try.func14, Try.ntmps14
      go_wp2
      refine bodyPost_ret (results_tmp2 rfl _ _ _) rfl ?_
      exact HgP.same HO.out (rf w) hB
  · rw [if_neg ha]
    have i0 : ¬ a < 3758096386 := by omega
    have i1 : ¬ 4026531840 ≤ a := by omega
    clear ha
    by_cases hh : hitG gs a = true
    · rw [if_pos hh]
      rw [hh] at HF
      clear hh
      go_enter Try.func14, Try.ntmps14
      go_wp2_with fail
      refine HF.out.mono ?_
      rintro e w1 ⟨rfl, b1⟩
      go_wp2
      refine bodyPost_ret (results_tmp2 rfl _ _ _) rfl ?_
      exact HgP.same HO.out b1 hB
    · rw [if_neg hh]
      have hf : hitG gs a = false := by simpa using hh
      rw [hf] at HF
      clear hh hf
      subst hv
      obtain ⟨n, hnn⟩ : ∃ n, ws.length = n := ⟨_, rfl⟩
      rw [hnn] at c0 hnc HO
      by_cases hfull : 16 ≤ gs.length
      · rw [if_pos hfull]
        have i16 : (16 : Int) ≤ n := by omega
        go_enter Try.func14, Try.ntmps14
        go_wp2_with fail
        refine HF.out.mono ?_
        rintro e w1 ⟨rfl, b1⟩
        have c1 : w1.cell? ⟨h, 0, none⟩ = some (.slice A n c) := (HO.out.nx b1).host.cell 0
        go_wp2
        refine bodyPost_ret (results_tmp2 rfl _ _ _) rfl ?_
        exact HgP.same HO.out b1 hB
      · rw [if_neg hfull]
        have i16 : ¬ (16 : Int) ≤ n := by omega
        obtain ⟨p, hp⟩ : ∃ p, posG gs a = p := ⟨_, rfl⟩
        have hple : p ≤ gs.length := by rw [← hp]; exact posG_le gs a
        rw [hp] at HF ⊢
        have HN := Lib.hid hnn
        have HLL := Lib.hid HL
        have hpn : p ≤ n := by omega
        clear hp hfull hnn HL
        go_enter Try.func14, Try.ntmps14
        go_wp2_with fail
        refine HF.out.mono ?_
        rintro e w1 ⟨rfl, b1⟩
        have O1 := Lib.hid (HO.out.nx b1)
        have c1 : w1.cell? ⟨h, 0, none⟩ = some (.slice A n c) := O1.out.host.cell 0
        have c1d : w1.drew.cell? ⟨h, 0, none⟩ = some (.slice A n c) := O1.out.host.cell 0
        have z1 := b1.size
        have BW1 := Lib.hid b1
        clear c0 b1 HF
        go_wp2
        have tok1 : True := trivial
        go_region_with (first
            | (go_at_call 34; have _t := tok1; refine (dueK now draw 10 p _ h0 h1 (by omega) (by omega) (by omega) d1 d0).mono ?_; rintro e w3 ⟨t, rfl, ht, htb, b3⟩; clear tok1 _t
               have B3 : Below w1.heap.size w1 w3 := nx (rf w1).drew b3
               have c3 : w3.cell? ⟨h, 0, none⟩ = some (.slice A n c) := (O1.out.nx B3).host.cell 0
               have c3a : ∀ o, (w3.alloc o).cell? ⟨h, 0, none⟩ = some (.slice A n c) := fun o => (O1.out.nx (al B3 o)).host.cell 0
               have O3 := Lib.hid (O1.out.nx (al B3 (.cells #[.int .u32 a, .pointer (some ⟨t, 0, none⟩), .bool true] 77)))
               have z3 := B3.size
               have INS := Lib.hid (insC (w3.alloc (.cells #[.int .u32 a, .pointer (some ⟨t, 0, none⟩), .bool true] 77)) B (.slice A n c) n p (flat ws) (⟨a, some ⟨t, 0, none⟩, true⟩ : Gp).cs w3.heap.size (by have h := O3.out.own; unfold OwnL at h; rw [HN.out] at h; exact h) (Blk.new w3 _ _) (fun hh => by have := (O1.out.own.lt _ hh).2; omega) rfl (by intro u hu; simp only [Gp.cs, List.mem_cons, List.not_mem_nil, or_false] at hu; rcases hu with rfl | rfl | rfl <;> rfl) (flat_one ws) hpn (by omega) (by simp; omega)))
            | (go_at_call 33; refine INS.out.mono ?_; rintro e w5 ⟨v5, rfl, own5, gr5, at5⟩; obtain ⟨A5, k5, rfl⟩ := own_slice own5
               have K5 : KeepT (w3.alloc (.cells #[.int .u32 a, .pointer (some ⟨t, 0, none⟩), .bool true] 77)).heap.size [77] (w3.alloc (.cells #[.int .u32 a, .pointer (some ⟨t, 0, none⟩), .bool true] 77)) w5 := KeepT.of_row gr5 (by have h := O3.out.own; unfold OwnL at h; rw [HN.out] at h; exact h) (.inr (by simp)) (Nat.le_refl _)
               have H5 : Blk w5 h 40 #[.slice A n c] := K5.blk_ O3.out.host (by decide)
               have c5 : w5.cell? ⟨h, 0, none⟩ = some (.slice A n c) := H5.cell 0
               have f5 : w5.frozen? ⟨h, 0, none⟩ = false := H5.frozen 0)
            | fail)
        all_goals
          have HI := O3.out.put (by simp; omega) gr5 (show OwnL w5 B (.slice A5 (n + 1) k5) (ws.take p ++ ⟨a, some ⟨t, 0, none⟩, true⟩ :: ws.drop p) by
              unfold OwnL
              rw [← insK_flat, show (ws.take p ++ (⟨a, some ⟨t, 0, none⟩, true⟩ : Gp) :: ws.drop p).length = n + 1 by rw [List.length_append, List.length_take, List.length_cons, List.length_drop, HN.out]; omega]
              exact own5) ((O3.out.mat.keep K5 (by decide)).ins hple ⟨a, some ⟨t, 0, none⟩, true⟩ ⟨a, some (dueV now draw 10 p), true⟩ rfl rfl ⟨t, rfl, K5.blk_ (Blk.nx ht (al (rf w3) _)) (by decide)⟩)
          obtain ⟨I6, b6, k6, _⟩ := HI
          have I6' := Lib.hid I6
          have B6 : Hid (Below B w (w5.setCell ⟨h, 0, none⟩ (.slice A5 (n + 1) k5))) := ((BW1.out.trans ((al B3 _).mono (by omega))).mono hB).trans b6
          have K6 : Hid (KeepT w.heap.size [40, 77] w (w5.setCell ⟨h, 0, none⟩ (.slice A5 (n + 1) k5))) := (KeepT.of_below (BW1.out.trans ((al B3 _).mono (by omega))) (Nat.le_refl _)).trans (k6.less (by simp; omega))
          have z6 : w.heap.size ≤ (w5.setCell ⟨h, 0, none⟩ (.slice A5 (n + 1) k5)).heap.size := by have := b6.size; simp at this ⊢; omega
          generalize w5.setCell ⟨h, 0, none⟩ (.slice A5 (n + 1) k5) = w6 at I6' B6 K6 z6 ⊢
          clear I6 b6 k6 c3 c3a c5 f5 c1 c1d ht B3 H5 K5 own5 gr5 at5
          go_wp2_with fail
          refine (reportC a _).mono ?_
          rintro e w7 ⟨rfl, b7⟩
          go_wp2
          refine bodyPost_ret (results_tmp2 rfl _ _ _) rfl ?_
          refine ⟨_, _, _, rfl, own_lit w7 #[.int .i64 22, .int .i64 0, .int .u32 a] 1 rfl (by have := b7.size; omega) (by unfold maxLen; omega) rfl, I6'.out.nx (al b7 _), B6.out.trans ((al b7 _).mono (by have := B6.out.size; omega)), K6.out.trans (KeepT.of_below (al b7 _) z6)⟩
end Go.Proofs.Ytjkmkafceeblpaa
