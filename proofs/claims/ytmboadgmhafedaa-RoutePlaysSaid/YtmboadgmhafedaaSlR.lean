/-
  slices.Insert and slices.Delete of one element, at elements of several cells, over a row of one's own. Printed by gen_sli.py.
-/
import Derived.Test.YtmboadgmhafedaaRtA
import Derived.Shelf.Spec.SlicesInsert
import Derived.Lib.AppendZerosOnto
import Derived.Lib.Overlaps
set_option linter.unusedVariables false
namespace Go.Proofs.Ytmboadgmhafedaa
open Go.RowKit

theorem run_copy_rowK {P : Program} (w : World) (K : Nat) (dT sT ty elem : TypeId) (g o dLen dCap : Nat) (a : Addr) (sLen sCap : Nat) (cur : List Value) (t : TypeId) (cs : List Value)
    (hu : P.underlying dT = some (.slice elem)) (hs : (P.info? elem).map (·.size) = some K)
    (hg : Blk w g t cur.toArray) (hn : cs.length = Nat.min sLen dLen * K)
    (hsrc : ∀ j v, cs[j]? = some v → w.cell? (a.add j) = some v) (hfit : o + cs.length ≤ cur.length) (h1 : ∀ v ∈ cs, v.oneCell' = true) :
    (Builtin.copy_ #[dT, sT] ty #[.slice (some ⟨g, o, none⟩) dLen dCap, .slice (some a) sLen sCap]).run P w =
      .ok (goInt (Nat.min sLen dLen)) (w.setRow g (splice cur o cs).toArray) := by
  have hl := run_loadCells_list (P := P) w a cs hsrc
  have hst := run_storeCells_at P g o t cs 0 cur.toArray w hg (by simpa using hfit) h1
  cases hq : P.info? elem with
  | none => simp [hq] at hs
  | some i =>
    have hi : i.size = K := by simpa [hq] using hs
    simp only [Nat.add_zero] at hst
    simp [Builtin.copy_, run_underlying hu, Builtin.lenOf, Builtin.firstCells, sizeOf, typeInfo, hq, hi, ← hn, hl, hst, splice]
theorem blk_row {w : World} {g : Nat} {t : TypeId} {cur : Array Value} (h : Blk w g t cur) (new : Array Value) : Blk (w.setRow g new) g t new := setRow_heap w g cur new t (0, 0) h
theorem row_only {w : World} {g : Nat} {new : Array Value} : w.grownBy (w.setRow g new) (some g) :=
  ⟨rfl, rfl, rfl, by simp, fun i _ hi => setRow_other w g i _ (by intro e; exact hi (by rw [e]))⟩
theorem splice_len {cur cs : List Value} {o : Nat} (h : o + cs.length ≤ cur.length) : (splice cur o cs).length = cur.length := by
  simp only [splice, List.length_append, List.length_take, List.length_drop]
  omega
theorem ins_cells (cur cs : List Value) (a b k : Nat) (hcs : cs.length = k) (hab : a ≤ b) (hb : b + k ≤ cur.length) :
    (splice (splice cur (a + k) ((cur.take b).drop a)) a cs).take (b + k) = (cur.take b).take a ++ cs ++ (cur.take b).drop a := by
  subst hcs
  have hM : ((cur.take b).drop a).length = b - a := by rw [List.length_drop, List.length_take]; omega
  have h1 : (cur.take b).take a = cur.take a := by rw [List.take_take, Nat.min_eq_left hab]
  rw [h1]
  have e1 : (splice cur (a + cs.length) ((cur.take b).drop a)).take a = cur.take a := by
    unfold splice
    rw [List.take_append_of_le_length (by rw [List.length_take]; omega), List.take_take, Nat.min_eq_left (by omega : a ≤ a + cs.length)]
  have e2 : (splice cur (a + cs.length) ((cur.take b).drop a)).drop (a + cs.length) = (cur.take b).drop a ++ cur.drop (a + cs.length + ((cur.take b).drop a).length) := by
    unfold splice
    rw [List.drop_append_of_le_length (by rw [List.length_take]; omega), List.drop_eq_nil_of_le (by rw [List.length_take]; omega), List.nil_append]
  show (_ ++ (cs ++ _)).take _ = _
  rw [e1, e2, ← List.append_assoc, ← List.append_assoc]
  rw [List.take_append_of_le_length (by simp only [List.length_append, List.length_take, hM]; omega)]
  exact List.take_of_length_le (by simp only [List.length_append, List.length_take, hM]; omega)
theorem del_cells (cur : List Value) (a b k : Nat) (hab : a + k ≤ b) (hb : b ≤ cur.length) :
    (splice cur a ((cur.take b).drop (a + k))).take (b - k) = (cur.take b).take a ++ (cur.take b).drop (a + k) := by
  have hM : ((cur.take b).drop (a + k)).length = b - (a + k) := by rw [List.length_drop, List.length_take]; omega
  have h1 : (cur.take b).take a = cur.take a := by rw [List.take_take, Nat.min_eq_left (by omega)]
  rw [h1]
  simp only [splice]
  rw [← List.append_assoc, List.take_append_of_le_length (by simp only [List.length_append, List.length_take, hM]; omega)]
  exact List.take_of_length_le (by simp only [List.length_append, List.length_take, hM]; omega)
def insK (xs cs : List Value) (i : Nat) : List Value := xs.take (i * 4) ++ cs ++ xs.drop (i * 4)
def delK (xs : List Value) (i : Nat) : List Value := xs.take (i * 4) ++ xs.drop ((i + 1) * 4)
def InsP (w : World) (base : Nat) (v : Value) (n : Nat) (xs cs : List Value) (i : Nat) (e : Ending) (w' : World) : Prop :=
  ∃ v', e = .returned v' ∧ w'.ownsRow base 36 4 v' (n + 1) (insK xs cs i) ∧ w.grownBy w' v.ownBlock ∧ (v'.ownBlock = v.ownBlock ∨ ∃ g, v'.ownBlock = some g ∧ w.heap.size ≤ g)
-- at the end
set_option maxHeartbeats 1600000 in
theorem insEnd (w : World) (base : Nat) (v : Value) (n : Nat) (xs cs : List Value) (s : Nat) (hown : w.ownsRow base 36 4 v n xs) (hs : Blk w s 36 cs.toArray) (hcs : cs.length = 4) (h1 : ∀ u ∈ cs, u.oneCell' = true) (hn : n ≤ 1000000) (hb : base ≤ w.heap.size) :
    Calls Try.prog 21 #[v, .int .i64 n, .slice (some ⟨s, 0, none⟩) 1 1] w fun e w' => InsP w base v n xs cs n e w' := by
  have HS := Lib.hid hs
  have HO := Lib.hid hown
  have hx : xs.length = n * 4 := hown.1
  obtain ⟨A, c, rfl⟩ := own_slice hown
  have hnc : n ≤ c := by
    rcases hown.2 with ⟨h, h0⟩ | ⟨g, cap, cur, h, _, _, h2, _⟩
    · omega
    · injection h with _ _ h; omega
  have i1 : (n : Int) ≤ c := by omega
  have HCS := Lib.hid hcs
  clear hs hown hcs
  have hcases : c = n ∨ ¬ c = n := by omega
  rcases hcases with rfl | hcn
  all_goals
    go_enter Try.func21, Try.ntmps21
    go_wp2_with (at_builtin; refine app_any stR rfl (.tmp 23) (.tmp 24) rfl base (.slice A _ _) _ xs rfl HO.out (some ⟨s, 0, none⟩) 1 1 cs rfl ⟨HCS.out, fun _ => ⟨_, rfl, HS.out.lt, fun j u hj => ?cs⟩⟩ h1 (by omega) (by omega) hb ?_; (case cs => (rw [Addr.add_mid, Nat.zero_add, HS.out.cell]; simpa using hj)); intro v1 w1 own1 gr1 at1 bel1; obtain ⟨A1, c1, rfl⟩ := own_slice own1)
    go_ret
    refine ⟨_, rfl, ?_, gr1, ?_⟩
    · unfold insK
      rw [List.take_of_length_le (by omega), List.drop_eq_nil_of_le (by omega), List.append_nil]
      exact own1
    · rcases at1 with h | h
      · exact .inl h
      · exact .inr ⟨_, h, Nat.le_refl _⟩
theorem size_run (w : World) : (sizeOf 36).run Try.prog w = .ok 4 w := by
  obtain ⟨i, hi, hz0, hz1, hz2⟩ := info_parts stR.hi
  simp [sizeOf, typeInfo, hi, hz1]
theorem info_size : (Try.prog.info? 36).map (·.size) = some 4 := by
  obtain ⟨i, hi, hz0, hz1, hz2⟩ := info_parts stR.hi
  rw [hi]; simp [hz1]
theorem blk_shape {w : World} {g : Nat} {t : TypeId} {cs : Array Value} (h : Blk w g t cs) : w.shape? g = some (t, cs.size) := by
  unfold Blk at h
  simp [World.shape?, h]
-- in the midst, with room
set_option maxRecDepth 100000 in
set_option maxHeartbeats 1600000 in
theorem insRoom (w : World) (g n c i s : Nat) (cur cs : List Value) (hg : Blk w g 36 cur.toArray) (hs : Blk w s 36 cs.toArray) (hne : s ≠ g) (hcur : cur.length = c * 4) (hcs : cs.length = 4)
    (h1 : ∀ u ∈ cs, u.oneCell' = true) (h2 : ∀ u ∈ cur.take (n * 4), u.oneCell' = true) (hi : i < n) (hr : n + 1 ≤ c) (hc : c ≤ maxLen) (hn9 : n ≤ 1000000) :
    Calls Try.prog 21 #[.slice (some ⟨g, 0, none⟩) n c, .int .i64 i, .slice (some ⟨s, 0, none⟩) 1 1] w fun e w' =>
      e = .returned (.slice (some ⟨g, 0, none⟩) (n + 1) c) ∧ Blk w' g 36 (splice (splice cur (i * 4 + 4) ((cur.take (n * 4)).drop (i * 4))) (i * 4) cs).toArray ∧ w.grownBy w' (some g) := by
  obtain ⟨M, hM⟩ : ∃ M, (cur.take (n * 4)).drop (i * 4) = M := ⟨_, rfl⟩
  have hMl : M.length = (n - i) * 4 := by rw [← hM, List.length_drop, List.length_take]; omega
  have hM1 : ∀ u ∈ M, u.oneCell' = true := fun u hu => h2 u (by rw [← hM] at hu; exact List.mem_of_mem_drop hu)
  have hMs : ∀ j v, M[j]? = some v → cur[i * 4 + j]? = some v := fun j v hj => by
    rw [← hM, List.getElem?_drop] at hj
    rw [List.getElem?_take] at hj
    split at hj
    · exact hj
    · cases hj
  have HB1 : Blk (w.drew.setRow g (splice cur (i * 4 + 4) M).toArray) g 36 (splice cur (i * 4 + 4) M).toArray := blk_row (show Blk w.drew g 36 cur.toArray from hg) _
  have hs1l : (splice cur (i * 4 + 4) M).length = cur.length := splice_len (by rw [hMl]; omega)
  have hcp1 : ∀ ty dc sc, (Builtin.copy_ #[22, 22] ty #[.slice (some ⟨g, (i + 1) * 4, none⟩) (n - i) dc, .slice (some ⟨g, i * 4, none⟩) (n + 1 - i) sc]).run Try.prog w.drew = .ok (goInt (Nat.min (n + 1 - i) (n - i))) (w.drew.setRow g (splice cur (i * 4 + 4) M).toArray) := fun ty dc sc => by
    have h := run_copy_rowK (P := Try.prog) w.drew 4 22 22 ty 36 g (i * 4 + 4) (n - i) dc ⟨g, i * 4, none⟩ (n + 1 - i) sc cur 36 M Try.underlying22 info_size hg
      (by rw [hMl, show Nat.min (n + 1 - i) (n - i) = n - i from Nat.min_eq_right (by omega)])
      (fun j v hj => by rw [Addr.add_mid]; exact (Blk.cell (show Blk w.drew g 36 cur.toArray from hg) _).trans (by rw [List.getElem?_toArray]; exact hMs j v hj)) (by rw [hMl]; omega) hM1
    rw [show (i + 1) * 4 = i * 4 + 4 by omega]
    exact h
  obtain ⟨W1, hW1⟩ : ∃ W1, W1 = w.drew.setRow g (splice cur (i * 4 + 4) M).toArray := ⟨_, rfl⟩
  rw [← hW1] at HB1 hcp1
  have HS1 : Blk W1 s 36 cs.toArray := by rw [hW1]; exact (setRow_other w.drew g s _ hne).trans hs
  have hcp2 : ∀ ty dc, (Builtin.copy_ #[22, 22] ty #[.slice (some ⟨g, i * 4, none⟩) (n + 1 - i) dc, .slice (some ⟨s, 0, none⟩) 1 1]).run Try.prog W1 = .ok (goInt (Nat.min 1 (n + 1 - i))) (W1.setRow g (splice (splice cur (i * 4 + 4) M) (i * 4) cs).toArray) := fun ty dc =>
    run_copy_rowK (P := Try.prog) W1 4 22 22 ty 36 g (i * 4) (n + 1 - i) dc ⟨s, 0, none⟩ 1 1 _ 36 cs Try.underlying22 info_size HB1
      (by rw [hcs, show Nat.min 1 (n + 1 - i) = 1 from Nat.min_eq_left (by omega)])
      (fun j v hj => by rw [Addr.add_mid, Nat.zero_add]; exact (HS1.cell j).trans (by rw [List.getElem?_toArray]; exact hj)) (by rw [hs1l, hcs]; omega) h1
  have hov : ∀ lb cb, (callFunc 34 #[.slice (some ⟨s, 0, none⟩) 1 1, .slice (some ⟨g, (i + 1) * 4, none⟩) lb cb]).run Try.prog w = .ok (.value (.bool false)) w := fun lb cb => by
    rw [run_callFunc_extern Try.func34 (by kernel_rfl) (by kernel_rfl) (by kernel_rfl) (e := Extern.SlicesOverlaps.overlaps #[22, 22] #[4]) (by kernel_rfl),
      Lib.run_overlaps_apart w 22 4 36 Try.underlying22 4 size_run ⟨s, 0, none⟩ ⟨g, (i + 1) * 4, none⟩ 1 1 lb cb hne 36 36 _ _ (blk_shape hs) (blk_shape hg) (by simp; rintro rfl; simp at hcur; omega) (hs.frozen 0) (hs.frozen _)]
    rfl
  have G2 : Hid (w.grownBy (W1.setRow g (splice (splice cur (i * 4 + 4) M) (i * 4) cs).toArray) (some g)) := by
    refine only_trans ?_ row_only
    rw [hW1]
    exact only_trans (only_drew (World.grownBy.refl w _)) row_only
  have B2 := Lib.hid (blk_row HB1 (splice (splice cur (i * 4 + 4) M) (i * 4) cs).toArray)
  have a1 : ¬ ((1 : Int) = 0) := by decide
  have a2 : ¬ ((i : Int) = n) := by omega
  have a3 : ¬ ((c : Int) < n + 1) := by omega
  have a4 : (i : Int) ≤ n := by omega
  have a5 : (n : Int) + 1 ≤ c := by omega
  have a6 : (i : Int) + 1 ≤ n + 1 := by omega
  have a7 : ¬ c = i := by omega
  have a8 : ¬ c = i + 1 := by omega
  have a9 : ((i : Int) + 1).toNat = i + 1 := by omega
  have a10 : ((n : Int) + 1).toNat = n + 1 := by omega
  have a11 : IntKind.i64.wrap ((i : Int) + 1) = i + 1 := by rw [IntKind.wrap_i64]; omega
  have a12 : IntKind.i64.wrap ((n : Int) + 1) = n + 1 := by rw [IntKind.wrap_i64]; omega
  have a13 : (i : Int) ≤ n + 1 := by omega
  have a14 : (0 : Int) ≤ (i : Int) + 1 := by omega
  have a15 : (0 : Int) ≤ (n : Int) + 1 := by omega
  rw [hM]
  clear hg hs hM hMl hM1 hMs HB1 hs1l HS1 hcur hcs h1 h2 hW1
  go_enter Try.func21, Try.ntmps21
  go_wp2_with (simp only [hov])
  go_region_law (refine step_copy_runI rfl _ _ 22 22 rfl _ _ (by simp [Act.eval, Act.put]) (by simp [Act.eval, Act.put]) (hcp1 _ _ _) ?_)
  go_wp2_with ((with_reducible show wpList _ _ _ ({ dst := some 82, op := .call { callee := .builtin .copy, args := #[.tmp 80, .tmp 81], argTypes := #[22, 22] }, .. } :: _) _ _); refine wpList_copy_runI _ rfl (.tmp 80) (.tmp 81) 22 22 rfl (.slice (some ⟨g, i * 4, none⟩) (n + 1 - i) (c - i)) (.slice (some ⟨s, 0, none⟩) 1 1) rfl rfl (hcp2 _ _) ?_)
  go_ret
  exact ⟨rfl, B2.out, G2.out⟩
theorem grow_cells (p z cs M : List Value) (a b k : Nat) (hp : p.length = a) (hcs : cs.length = k) (hM : M.length = b - a) (hab : a ≤ b) (hz : b + k ≤ a + z.length) :
    (splice (splice (p ++ z) a cs) (a + k) M).take (b + k) = p ++ cs ++ M := by
  subst hp hcs
  have e1 : splice (p ++ z) p.length cs = (p ++ cs) ++ (p ++ z).drop (p.length + cs.length) := by
    unfold splice
    rw [List.take_left, List.append_assoc]
  rw [e1]
  unfold splice
  rw [show p.length + cs.length = (p ++ cs).length by rw [List.length_append], List.take_left, ← List.append_assoc]
  rw [List.take_append_of_le_length (by simp only [List.length_append, hM]; omega)]
  exact List.take_of_length_le (by simp only [List.length_append, hM]; omega)
theorem zc_one (k : Nat) : ∀ u ∈ (Builtin.zeroCells (rz).cells k).toList, u.oneCell' = true := fun u hu => by
  have hz : ∀ i, i < 4 → (((rz).cells[i]!).oneCell' = true) := by decide
  simp only [Builtin.zeroCells, Array.toList_map, List.mem_map, Array.mem_toList_iff, Array.mem_range] at hu
  obtain ⟨j, _, rfl⟩ := hu
  refine hz _ ?_
  have h : j % (rz).cells.size < (rz).cells.size := Nat.mod_lt _ (by decide)
  have h4 : (rz).cells.size ≤ 4 := by decide
  omega
theorem zc_len (k : Nat) : (Builtin.zeroCells (rz).cells k).toList.length = k * 4 := by rw [Array.length_toList, size_zeroCells]; rfl
theorem zero_run : ∃ i, Try.prog.info? 36 = some i ∧ i.zero = some rz ∧ i.size = 4 ∧ i.bytes = 32 := by
  obtain ⟨i, hi, hz0, hz1, hz2⟩ := info_parts stR.hi
  exact ⟨i, hi, hz0, hz1, hz2⟩
-- in the midst, without room
set_option maxRecDepth 100000 in
set_option maxHeartbeats 1600000 in
theorem insGrow (w : World) (g n c i s : Nat) (cur cs : List Value) (hg : Blk w g 36 cur.toArray) (hs : Blk w s 36 cs.toArray) (hcur : cur.length = c * 4) (hcs : cs.length = 4)
    (h1 : ∀ u ∈ cs, u.oneCell' = true) (h2 : ∀ u ∈ cur.take (n * 4), u.oneCell' = true) (hi : i < n) (hnc : n ≤ c) (hr : c < n + 1) (hc : n ≤ 1000000) :
    Calls Try.prog 21 #[.slice (some ⟨g, 0, none⟩) n c, .int .i64 i, .slice (some ⟨s, 0, none⟩) 1 1] w fun e w' =>
      ∃ G cur2, e = .returned (.slice (some ⟨w.heap.size, 0, none⟩) (n + 1) G) ∧ Blk w' w.heap.size 36 (cur2 : List Value).toArray ∧ cur2.length = G * 4 ∧ n + 1 ≤ G ∧ G ≤ maxLen ∧ cur2.take ((n + 1) * 4) = insK (cur.take (n * 4)) cs i ∧ Below w.heap.size w w' := by
  obtain ⟨i0, hi0, hz0, hz1, hz2⟩ := zero_run
  obtain ⟨xs, hxs⟩ : ∃ xs, cur.take (n * 4) = xs := ⟨_, rfl⟩
  have hxl : xs.length = n * 4 := by rw [← hxs, List.length_take]; omega
  rw [hxs] at h2 ⊢
  have hxc : ∀ j v, xs[j]? = some v → cur[j]? = some v := fun j v hj => by
    rw [← hxs, List.getElem?_take] at hj
    split at hj
    · exact hj
    · cases hj
  have hgl := hg.lt
  have hsl := hs.lt
  have hpl : (xs.take (i * 4)).length = i * 4 := by rw [List.length_take]; omega
  have hold : (Builtin.firstCells i0.size i (.slice (some ⟨g, 0, none⟩) i c)).run Try.prog w.drew = .ok (xs.take (i * 4)).toArray w.drew := by
    rw [hz1]
    exact run_firstCells_some w.drew 4 i ⟨g, 0, none⟩ i c (xs.take (i * 4)) hpl (fun j v hj => by
      rw [Addr.add_mid, Nat.zero_add]
      refine (Blk.cell (show Blk w.drew g 36 cur.toArray from hg) _).trans ?_
      rw [List.getElem?_toArray]
      refine hxc j v ?_
      rw [List.getElem?_take] at hj
      split at hj
      · exact hj
      · cases hj)
  have hik : i + (n + 1 - i) = n + 1 := by omega
  obtain ⟨G, hG⟩ : ∃ G, grownCap w (n + 1) c 36 = G := ⟨_, rfl⟩
  have hGn : n + 1 ≤ G := by rw [← hG]; exact grownCap_ge w _ _ _
  have hGm : G ≤ maxLen := by rw [← hG]; exact grownCap_le_maxLen w (n + 1) c 36 (by unfold maxLen; omega)
  obtain ⟨z, hzz⟩ : ∃ z, (Builtin.zeroCells (rz).cells (n + 1 - i)).toList ++ (Builtin.zeroCells (rz).cells (G - (n + 1))).toList = z := ⟨_, rfl⟩
  have hzl : z.length = (n + 1 - i) * 4 + (G - (n + 1)) * 4 := by rw [← hzz, List.length_append, zc_len, zc_len]
  have hz1c : ∀ u ∈ z, u.oneCell' = true := fun u hu => by
    rw [← hzz] at hu
    rcases List.mem_append.1 hu with h | h
    · exact zc_one _ u h
    · exact zc_one _ u h
  have hrz : ∀ ty, (Builtin.append_ #[22, 3] ty #[.slice (some ⟨g, 0, none⟩) i c, .int .i64 ((n : Int) + 1 - (i : Int))]).run Try.prog w =
      .ok (.slice (some ⟨w.heap.size, 0, none⟩) (n + 1) G) (w.drew.alloc (.cells (xs.take (i * 4) ++ z).toArray 36)) := fun ty => by
    have h := Lib.run_append_grow_zeros (P := Try.prog) w 22 3 ty 36 i0 rz .i64 .i64 Try.underlying22 Try.underlying3 hi0 hz0 (some ⟨g, 0, none⟩) i c (xs.take (i * 4)) hold (n + 1 - i) (by omega) (by omega) (by omega) (by omega) (by rw [hz2]; omega) (by rw [hz2, hik]; exact growslice_fits (by omega) (by omega))
    rw [hik, hG] at h
    have e1 : (((n + 1 - i : Nat)) : Int) = (n : Int) + 1 - (i : Int) := by omega
    rw [e1] at h
    rw [h]
    congr 5
    apply Array.toList_inj.1
    rw [Array.toList_append, Array.toList_append, ← hzz, List.append_assoc]
  obtain ⟨W1, hW1⟩ : ∃ W1, w.drew.alloc (.cells (xs.take (i * 4) ++ z).toArray 36) = W1 := ⟨_, rfl⟩
  rw [hW1] at hrz
  have b1 : Below w.heap.size w W1 := by rw [← hW1]; exact (rf w).drew.alloc (Nat.le_refl _) _
  have HB1 : Blk W1 w.heap.size 36 (xs.take (i * 4) ++ z).toArray := by rw [← hW1]; exact Blk.new w.drew _ _
  have HG1 := hg.nx b1
  have HS1 := hs.nx b1
  have r0l : (xs.take (i * 4) ++ z).length = G * 4 := by rw [List.length_append, hpl, hzl]; omega
  obtain ⟨cur1, hcur1⟩ : ∃ c1, splice (xs.take (i * 4) ++ z) (i * 4) cs = c1 := ⟨_, rfl⟩
  have r1l : cur1.length = G * 4 := by rw [← hcur1, splice_len (by rw [r0l, hcs]; omega), r0l]
  have hcpA : ∀ ty dc, (Builtin.copy_ #[22, 22] ty #[.slice (some ⟨w.heap.size, i * 4, none⟩) (n + 1 - i) dc, .slice (some ⟨s, 0, none⟩) 1 1]).run Try.prog W1 = .ok (goInt (Nat.min 1 (n + 1 - i))) (W1.setRow w.heap.size cur1.toArray) := fun ty dc => by
    rw [← hcur1]
    exact run_copy_rowK (P := Try.prog) W1 4 22 22 ty 36 w.heap.size (i * 4) (n + 1 - i) dc ⟨s, 0, none⟩ 1 1 _ 36 cs Try.underlying22 info_size HB1
      (by rw [hcs, show Nat.min 1 (n + 1 - i) = 1 from Nat.min_eq_left (by omega)])
      (fun j v hj => by rw [Addr.add_mid, Nat.zero_add]; exact (HS1.cell j).trans (by rw [List.getElem?_toArray]; exact hj)) (by rw [r0l, hcs]; omega) h1
  have HB2 : Blk (W1.setRow w.heap.size cur1.toArray) w.heap.size 36 cur1.toArray := blk_row HB1 _
  have HG2 : Blk (W1.setRow w.heap.size cur1.toArray) g 36 cur.toArray := (setRow_other W1 w.heap.size g _ (by omega)).trans HG1
  have b2 : Below w.heap.size w (W1.setRow w.heap.size cur1.toArray) := b1.trans (below_only row_only (Nat.le_refl _) b1.size)
  obtain ⟨W2, hW2⟩ : ∃ W2, W1.setRow w.heap.size cur1.toArray = W2 := ⟨_, rfl⟩
  rw [hW2] at HB2 HG2 b2 hcpA
  obtain ⟨M, hM⟩ : ∃ M, xs.drop (i * 4) = M := ⟨_, rfl⟩
  have hMl : M.length = (n - i) * 4 := by rw [← hM, List.length_drop]; omega
  have hM1 : ∀ u ∈ M, u.oneCell' = true := fun u hu => h2 u (by rw [← hM] at hu; exact List.mem_of_mem_drop hu)
  obtain ⟨cur2, hcur2⟩ : ∃ c2, splice cur1 (i * 4 + 4) M = c2 := ⟨_, rfl⟩
  have r2l : cur2.length = G * 4 := by rw [← hcur2, splice_len (by rw [r1l, hMl]; omega), r1l]
  have hcpB : ∀ ty dc sc, (Builtin.copy_ #[22, 22] ty #[.slice (some ⟨w.heap.size, (i + 1) * 4, none⟩) (n - i) dc, .slice (some ⟨g, i * 4, none⟩) (n - i) sc]).run Try.prog W2.drew = .ok (goInt (Nat.min (n - i) (n - i))) (W2.drew.setRow w.heap.size cur2.toArray) := fun ty dc sc => by
    have h := run_copy_rowK (P := Try.prog) W2.drew 4 22 22 ty 36 w.heap.size (i * 4 + 4) (n - i) dc ⟨g, i * 4, none⟩ (n - i) sc _ 36 M Try.underlying22 info_size (show Blk W2.drew w.heap.size 36 cur1.toArray from HB2)
      (by rw [hMl, show Nat.min (n - i) (n - i) = n - i from Nat.min_self _])
      (fun j v hj => by
        rw [Addr.add_mid]
        refine (Blk.cell (show Blk W2.drew g 36 cur.toArray from HG2) _).trans ?_
        rw [List.getElem?_toArray]
        refine hxc _ v ?_
        rw [← hM, List.getElem?_drop] at hj
        exact hj) (by rw [r1l, hMl]; omega) hM1
    rw [hcur2] at h
    rw [show (i + 1) * 4 = i * 4 + 4 by omega]
    exact h
  have HB3 := Lib.hid (blk_row (show Blk W2.drew w.heap.size 36 cur1.toArray from HB2) cur2.toArray)
  have b3 : Hid (Below w.heap.size w (W2.drew.setRow w.heap.size cur2.toArray)) := b2.drew.trans (below_only row_only (Nat.le_refl _) b2.size)
  have HF : Hid (cur2.take ((n + 1) * 4) = insK xs cs i) := by
    show _ = _
    rw [← hcur2, ← hcur1, show (n + 1) * 4 = n * 4 + 4 by omega]
    unfold insK
    rw [← hM] at hMl ⊢
    exact grow_cells _ z cs _ (i * 4) (n * 4) 4 hpl hcs (by rw [hMl]; omega) (by omega) (by rw [hzl]; omega)
  have R2 := Lib.hid r2l
  have a1 : ¬ ((1 : Int) = 0) := by decide
  have a2 : ¬ ((i : Int) = n) := by omega
  have a3 : (c : Int) < n + 1 := by omega
  have a4 : (i : Int) ≤ n := by omega
  have a6 : (i : Int) + 1 ≤ n + 1 := by omega
  have a7 : ¬ c = i := by omega
  have a8 : ¬ G = i + 1 := by omega
  have a8' : ¬ G = i := by omega
  have a9 : ((i : Int) + 1).toNat = i + 1 := by omega
  have a11 : IntKind.i64.wrap ((i : Int) + 1) = i + 1 := by rw [IntKind.wrap_i64]; omega
  have a12 : IntKind.i64.wrap ((n : Int) + 1) = n + 1 := by rw [IntKind.wrap_i64]; omega
  have a12' : IntKind.i64.wrap ((n : Int) + 1 - i) = n + 1 - i := by rw [IntKind.wrap_i64]; omega
  have a13 : (i : Int) ≤ n + 1 := by omega
  have a14 : (0 : Int) ≤ (i : Int) + 1 := by omega
  have a16 : (i : Int) ≤ c := by omega
  clear hg hs hxs hxl h2 hxc hpl hold hG hzz hzl hz1c hW1 b1 HB1 HG1 HS1 r0l hcur1 r1l HB2 HG2 b2 hW2 hM hMl hM1 hcur2 r2l hcur hcs h1 hi0 hz0 hz1 hz2
  go_enter Try.func21, Try.ntmps21
  go_wp2_with (first
    | (at_builtin; refine Lib.wpList_append_run _ rfl (.tmp 34) (.tmp 39) 22 3 rfl (.slice (some ⟨g, 0, none⟩) i c) (.int .i64 ((n : Int) + 1 - i)) rfl rfl _ _ (hrz _) ?_)
    | ((with_reducible show wpList _ _ _ ({ dst := some 45, op := .call { callee := .builtin .copy, args := #[.tmp 43, .tmp 44], argTypes := #[22, 22] }, .. } :: _) _ _); refine wpList_copy_runI _ rfl (.tmp 43) (.tmp 44) 22 22 rfl (.slice (some ⟨w.heap.size, i * 4, none⟩) (n + 1 - i) (G - i)) (.slice (some ⟨s, 0, none⟩) 1 1) rfl rfl (hcpA _ _) ?_)
    | fail)
  go_region_law (refine step_copy_runI rfl _ _ 22 22 rfl (.slice (some ⟨w.heap.size, (i + 1) * 4, none⟩) (n - i) (G - (i + 1))) (.slice (some ⟨g, i * 4, none⟩) (n - i) (c - i)) (by simp [Act.eval, Act.put]) (by simp [Act.eval, Act.put]) (hcpB _ _ _) ?_)
  go_wp2
  go_ret
  exact ⟨G, cur2, rfl, HB3.out, R2.out, hGn, hGm, HF.out, b3.out⟩
theorem wpList_clearK {P : Program} {ops : Array Oper} {rest : List Oper} {o : Oper} {a : Act} {w : World} {Q : Exit → Act → World → Prop} (hgd : o.guard = none) (x : Operand) (T : TypeId) (ho : o.op = .call { callee := .builtin .clear, args := #[x], argTypes := #[T] })
    (e : TypeId) (z : Value) (zs : List Value) (ht : P.underlying T = some (.slice e)) (hv : ∀ w, (zeroValue e).run P w = .ok z w) (hz : (Builtin.zeroCells z.cells 1).toList = zs) (g off c : Nat) (hx : a.eval x = .slice (some ⟨g, off, none⟩) 1 c)
    (t : TypeId) (cur : List Value) (hB : Blk w g t cur.toArray) (hl : off + zs.length ≤ cur.length) (h1 : ∀ v ∈ zs, v.oneCell' = true)
    (h : ∀ w', Blk w' g t (splice cur off zs).toArray → w.grownBy w' (some g) → wpList P ops Q rest (a.put o.dst (.tuple #[])) w') : wpList P ops Q (o :: rest) a w :=
  wpList_plain hgd fun _ hK => by
    have hst := run_storeCells_at P g off t zs 0 cur.toArray w hB (by simpa using hl) h1
    simp only [Nat.add_zero] at hst
    have hrun : (Builtin.clear_ #[T] o.type #[.slice (some ⟨g, off, none⟩) 1 c]).run P w = .ok (.tuple #[]) (w.setRow g (splice cur off zs).toArray) := by
      simp [Builtin.clear_, run_underlying ht, hv, hz, hst, splice]
    unfold Oper.wp execOp
    simp only [ho, resolve, invoke, builtin, Sem.run_bind, Sem.run_pure, Result.andThen_ok, List.map_toArray, List.map_cons, List.map_nil, hx, hrun]
    exact hK _ _ (h _ (blk_row hB _) row_only)
theorem step_app_runI {P : Program} {ops : Array Oper} {o : Oper} {a : Act} {w : World} {K : Act → World → Prop} {Q : Exit → Act → World → Prop} {E : Prop}
    (hg : o.guard = none) (d x : Operand) (dT sT : TypeId) (hop : o.op = Op.call { callee := Callee.builtin Builtin.append, args := #[d, x], argTypes := #[dT, sT] })
    (v u : Value) (hd : a.eval d = v) (hx : a.eval x = u) {v' : Value} {w' : World} (hr : (Builtin.append_ #[dT, sT] o.type #[v, u]).run P w = .ok v' w') (hK : K (a.put o.dst v') w') :
    if Region.wanted o (yielded ops a.tmps) = true then Oper.wp P o a w K Q else E := by
  have hw : Region.wanted o (yielded ops a.tmps) = true := by simp [Region.wanted, hg]
  rw [if_pos hw]
  unfold Oper.wp execOp
  simp only [hop, resolve, invoke, builtin, Sem.run_bind, Sem.run_pure, Result.andThen_ok, List.map_toArray, List.map_cons, List.map_nil, hd, hx, hr]
  exact hK
-- one element goes
set_option maxRecDepth 100000 in
set_option maxHeartbeats 1600000 in
theorem delAt (w : World) (g q c i : Nat) (cur : List Value) (hg : Blk w g 36 cur.toArray) (hcur : cur.length = c * 4)
    (h2 : ∀ u ∈ cur.take ((q + 1) * 4), u.oneCell' = true) (hi : i ≤ q) (hnc : q + 1 ≤ c) (hc : c ≤ maxLen) (hn9 : q ≤ 1000000) :
    Calls Try.prog 30 #[.slice (some ⟨g, 0, none⟩) (q + 1) c, .int .i64 i, .int .i64 ((i : Int) + 1)] w fun e w' =>
      ∃ cur2 : List Value, e = .returned (.slice (some ⟨g, 0, none⟩) q c) ∧ Blk w' g 36 cur2.toArray ∧ cur2.length = c * 4 ∧ cur2.take (q * 4) = delK (cur.take ((q + 1) * 4)) i ∧ w.grownBy w' (some g) := by
  obtain ⟨i0, hi0, hz0, hz1, hz2⟩ := zero_run
  obtain ⟨M, hM⟩ : ∃ M, (cur.take ((q + 1) * 4)).drop ((i + 1) * 4) = M := ⟨_, rfl⟩
  have hMl : M.length = (q - i) * 4 := by rw [← hM, List.length_drop, List.length_take]; omega
  have hM1 : ∀ u ∈ M, u.oneCell' = true := fun u hu => h2 u (by rw [← hM] at hu; exact List.mem_of_mem_drop hu)
  have hMs : ∀ j v, M[j]? = some v → cur[(i + 1) * 4 + j]? = some v := fun j v hj => by
    rw [← hM, List.getElem?_drop] at hj
    rw [List.getElem?_take] at hj
    split at hj
    · exact hj
    · cases hj
  have hsrc : ∀ (A : Addr), (M ≠ [] → A = ⟨g, (i + 1) * 4, none⟩) → ∀ j v, M[j]? = some v → w.drew.cell? (A.add j) = some v := fun A hA j v hj => by
    have hne : M ≠ [] := by rintro rfl; simp at hj
    rw [hA hne, Addr.add_mid]
    exact (Blk.cell (show Blk w.drew g 36 cur.toArray from hg) _).trans (by rw [List.getElem?_toArray]; exact hMs j v hj)
  obtain ⟨cur1, hcur1⟩ : ∃ c1, splice cur (i * 4) M = c1 := ⟨_, rfl⟩
  have r1l : cur1.length = c * 4 := by rw [← hcur1, splice_len (by rw [hMl]; omega), hcur]
  have hap : ∀ ty (A : Addr) (sc : Nat), (M ≠ [] → A = ⟨g, (i + 1) * 4, none⟩) → (Builtin.append_ #[22, 22] ty #[.slice (some ⟨g, 0, none⟩) i c, .slice (some A) (q - i) sc]).run Try.prog w.drew = .ok (.slice (some ⟨g, 0, none⟩) q c) (w.drew.setRow g cur1.toArray) := fun ty A sc hA => by
    have h := run_append_room (P := Try.prog) w.drew (ty := ty) 22 36 i0 Try.underlying22 hi0 g i c cur.toArray hg A (q - i) sc M (by rw [hz1]; exact hMl) (hsrc A hA) hM1 (by omega) (by rw [hz1, hMl]; simp only [List.size_toArray, hcur]; omega)
    rw [show i + (q - i) = q by omega] at h
    rw [h, ← hcur1, hz1]
    congr 1
    unfold splice
    simp only [List.append_assoc]
  have HB1 := Lib.hid (blk_row (show Blk w.drew g 36 cur.toArray from hg) cur1.toArray)
  have G1 : Hid (w.grownBy (w.drew.setRow g cur1.toArray) (some g)) := only_trans (only_drew (World.grownBy.refl w _)) row_only
  have HF : Hid (cur1.take (q * 4) = delK (cur.take ((q + 1) * 4)) i) := by
    show _ = _
    unfold delK
    rw [← hcur1, ← hM, show (i + 1) * 4 = i * 4 + 4 by omega]
    have h := del_cells cur (i * 4) ((q + 1) * 4) 4 (by omega) (by omega)
    rw [show (q + 1) * 4 - 4 = q * 4 by omega] at h
    exact h
  have R1 := Lib.hid r1l
  have hMe : Hid (c = i + 1 → M = []) := fun h => List.eq_nil_of_length_eq_zero (by rw [hMl]; omega)
  obtain ⟨W1, hW1⟩ : ∃ W1, w.drew.setRow g cur1.toArray = W1 := ⟨_, rfl⟩
  rw [hW1] at hap HB1 G1
  have a1 : (i : Int) ≤ (i : Int) + 1 := by omega
  have a2 : (i : Int) + 1 ≤ (q : Int) + 1 := by omega
  have a3 : (q : Int) + 1 ≤ c := by omega
  have a4 : ¬ ((i : Int) = (i : Int) + 1) := by omega
  have a5 : ((i : Int) + 1).toNat = i + 1 := by omega
  have a6 : (i : Int) ≤ c := by omega
  have a7 : (i : Int) ≤ q := by omega
  have a8 : (q : Int) ≤ q + 1 := by omega
  have a9 : ¬ c = i := by omega
  have a10 : ¬ c = q := by omega
  have a11 : (0 : Int) ≤ (i : Int) + 1 := by omega
  have a12 : ((q : Int) + 1).toNat = q + 1 := by omega
  have a13 : (0 : Int) ≤ (q : Int) + 1 := by omega
  have a14 : (i : Int) + 1 ≤ c := by omega
  have a15 : q + 1 - q = 1 := by omega
  have hl2 : q * 4 + 4 ≤ cur1.length ∨ q * 4 + 4 ≤ cur1.length := by right; rw [r1l]; omega
  have hl3 : q * 4 + 4 ≤ cur1.length := by rw [r1l]; omega
  have hcases : c = i + 1 ∨ ¬ c = i + 1 := by omega
  clear hg hcur h2 hi0 hz0 hz1 hz2 hM hMl hM1 hMs hsrc hcur1 r1l hW1 hl2
  have fin : ∀ w2, Blk w2 g 36 (splice cur1 (q * 4) [.int .u32 0, .int .i64 0, .int .u32 0, .int .i64 0]).toArray → W1.grownBy w2 (some g) → ∃ cur2 : List Value, Blk w2 g 36 cur2.toArray ∧ cur2.length = c * 4 ∧ cur2.take (q * 4) = delK (cur.take ((q + 1) * 4)) i ∧ w.grownBy w2 (some g) := fun w2 hb hgr => by
    refine ⟨_, hb, by rw [splice_len (by simpa using hl3), R1.out], ?_, only_trans G1.out hgr⟩
    rw [← HF.out]
    unfold splice
    rw [List.take_append_of_le_length (by rw [List.length_take]; omega), List.take_take, Nat.min_self]
  have FIN := Lib.hid fin
  clear fin
  rcases hcases with hci | hci
  · have hM0 := hMe.out hci
    have hiq : q = i := by omega
    subst hiq
    subst hci
    have hap1 := fun ty => hap ty ⟨g, 0, none⟩ 0 (fun h => absurd hM0 h)
    rw [show q - q = 0 from Nat.sub_self q] at hap1
    clear hap hM0 hMe
    go_enter Try.func30, Try.ntmps30
    go_wp2
    go_region_law (refine step_app_runI rfl _ _ 22 22 rfl (.slice (some ⟨g, 0, none⟩) q (q + 1)) (.slice (some ⟨g, 0, none⟩) 0 0) (by simp [Act.eval, Act.put]) (by simp [Act.eval, Act.put]) (hap1 _) ?_)
    go_wp2_with ((with_reducible show wpList _ _ _ ({ dst := none, op := .call { callee := .builtin .clear, args := #[.tmp 31], argTypes := #[22] }, .. } :: _) _ _); (refine wpList_clearK rfl (.tmp 31) 22 rfl 36 rz [.int .u32 0, .int .i64 0, .int .u32 0, .int .i64 0] Try.underlying22 Try.zeroValue36 (by kernel_rfl) g (q * 4) _ rfl 36 _ HB1.out (by simpa using hl3) (by intro u hu; simp at hu; rcases hu with rfl | rfl | rfl | rfl <;> rfl) ?_); intro w2 hB2 gr2)
    go_ret
    obtain ⟨cur2, f1, f2, f3, f4⟩ := FIN.out _ hB2 gr2
    exact ⟨cur2, rfl, f1, f2, f3, f4⟩
  · have hap1 := fun ty => hap ty ⟨g, (i + 1) * 4, none⟩ (c - (i + 1)) (fun _ => rfl)
    clear hap hMe
    go_enter Try.func30, Try.ntmps30
    go_wp2
    go_region_law (refine step_app_runI rfl _ _ 22 22 rfl (.slice (some ⟨g, 0, none⟩) i c) (.slice (some ⟨g, (i + 1) * 4, none⟩) (q - i) (c - (i + 1))) (by simp [Act.eval, Act.put]) (by simp [Act.eval, Act.put]) (hap1 _) ?_)
    go_wp2_with ((with_reducible show wpList _ _ _ ({ dst := none, op := .call { callee := .builtin .clear, args := #[.tmp 31], argTypes := #[22] }, .. } :: _) _ _); (refine wpList_clearK rfl (.tmp 31) 22 rfl 36 rz [.int .u32 0, .int .i64 0, .int .u32 0, .int .i64 0] Try.underlying22 Try.zeroValue36 (by kernel_rfl) g (q * 4) _ rfl 36 _ HB1.out (by simpa using hl3) (by intro u hu; simp at hu; rcases hu with rfl | rfl | rfl | rfl <;> rfl) ?_); intro w2 hB2 gr2)
    go_ret
    obtain ⟨cur2, f1, f2, f3, f4⟩ := FIN.out _ hB2 gr2
    exact ⟨cur2, rfl, f1, f2, f3, f4⟩

theorem insC (w : World) (base : Nat) (v : Value) (n i : Nat) (xs cs : List Value) (s : Nat) (hown : w.ownsRow base 36 4 v n xs) (hs : Blk w s 36 cs.toArray) (hne : v.ownBlock ≠ some s) (hcs : cs.length = 4)
    (h1 : ∀ u ∈ cs, u.oneCell' = true) (h2 : ∀ u ∈ xs, u.oneCell' = true) (hi : i ≤ n) (hn : n ≤ 1000000) (hb : base ≤ w.heap.size) :
    Calls Try.prog 21 #[v, .int .i64 i, .slice (some ⟨s, 0, none⟩) 1 1] w fun e w' => InsP w base v n xs cs i e w' := by
  by_cases hin : i = n
  · subst hin
    exact insEnd w base v i xs cs s hown hs hcs h1 hn hb
  · rcases hown.2 with ⟨rfl, rfl⟩ | ⟨g, c, cur, rfl, hbg, hg, hnc, hcm, hcl, htk⟩
    · omega
    · obtain ⟨cur⟩ := cur
      have hxs : cur.take (n * 4) = xs := htk
      have hcl' : cur.length = c * 4 := hcl
      by_cases hr : n + 1 ≤ c
      · refine (insRoom w g n c i s cur cs hg hs (fun e => hne (by rw [e]; rfl)) hcl' hcs h1 (by rw [hxs]; exact h2) (by omega) hr hcm hn).mono ?_
        rintro e w' ⟨rfl, hB, hG⟩
        have hl : (splice (splice cur (i * 4 + 4) ((cur.take (n * 4)).drop (i * 4))) (i * 4) cs).length = c * 4 := by
          have hMl : ((cur.take (n * 4)).drop (i * 4)).length = (n - i) * 4 := by rw [List.length_drop, List.length_take]; omega
          rw [splice_len (by rw [splice_len (by rw [hMl]; omega), hcs]; omega), splice_len (by rw [hMl]; omega), hcl']
        have hf : (splice (splice cur (i * 4 + 4) ((cur.take (n * 4)).drop (i * 4))) (i * 4) cs).take ((n + 1) * 4) = insK xs cs i := by
          rw [show (n + 1) * 4 = n * 4 + 4 by omega, ins_cells cur cs (i * 4) (n * 4) 4 hcs (by omega) (by omega), hxs]
          rfl
        refine ⟨_, rfl, ⟨?_, .inr ⟨g, c, _, rfl, hbg, hB, hr, hcm, hl, hf⟩⟩, hG, .inl rfl⟩
        rw [← hf, List.length_take, hl]
        omega
      · refine (insGrow w g n c i s cur cs hg hs hcl' hcs h1 (by rw [hxs]; exact h2) (by omega) hnc (by omega) hn).mono ?_
        rintro e w' ⟨G, cur2, rfl, hB, hl, hGn, hGm, hf, hbel⟩
        rw [hxs] at hf
        refine ⟨_, rfl, ⟨?_, .inr ⟨_, G, _, rfl, hb, hB, hGn, hGm, hl, hf⟩⟩, only_of hbel, .inr ⟨_, rfl, Nat.le_refl _⟩⟩
        rw [← hf, List.length_take, hl]
        omega
theorem delC (w : World) (base : Nat) (v : Value) (q i : Nat) (xs : List Value) (hown : w.ownsRow base 36 4 v (q + 1) xs) (h2 : ∀ u ∈ xs, u.oneCell' = true) (hi : i ≤ q) (hn : q ≤ 1000000) :
    Calls Try.prog 30 #[v, .int .i64 i, .int .i64 ((i : Int) + 1)] w fun e w' => ∃ v', e = .returned v' ∧ w'.ownsRow base 36 4 v' q (delK xs i) ∧ w.grownBy w' v.ownBlock ∧ v'.ownBlock = v.ownBlock := by
  rcases hown.2 with ⟨rfl, h⟩ | ⟨g, c, cur, rfl, hbg, hg, hnc, hcm, hcl, htk⟩
  · omega
  · obtain ⟨cur⟩ := cur
    have hxs : cur.take ((q + 1) * 4) = xs := htk
    have hcl' : cur.length = c * 4 := hcl
    refine (delAt w g q c i cur hg hcl' (by rw [hxs]; exact h2) hi hnc hcm hn).mono ?_
    rintro e w' ⟨cur2, rfl, hB, hl, hf, hG⟩
    rw [hxs] at hf
    refine ⟨_, rfl, ⟨?_, .inr ⟨g, c, _, rfl, hbg, hB, by omega, hcm, hl, hf⟩⟩, hG, rfl⟩
    rw [← hf, List.length_take, hl]
    omega
end Go.Proofs.Ytmboadgmhafedaa
