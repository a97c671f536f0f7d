/-
  Which bytes are a datagram: the reference's Decode.
-/
import Derived.Test.YtbhplleaokncpaaGetB
import Derived.Test.YtbhplleaokncpaaUdR
import Derived.Test.YtbhplleaokncpaaMem
set_option linter.unusedVariables false
namespace Go.Proofs.Ytbhplleaokncpaa
open Go.RowKit

def dgV (fr frp to_ top : Int) (v : Value) : Value := .agg #[.int .u32 fr, .int .i64 frp, .int .u32 to_, .int .i64 top, v]
def zDg : Value := .agg #[.int .u32 0, .int .i64 0, .int .u32 0, .int .i64 0, .slice none 0 0]
def zDc : List Value := [.int .u32 0, .int .i64 0, .int .u32 0, .int .i64 0, .slice none 0 0]
theorem zDcV : Value.agg zDc.toArray = zDg := rfl
def at2 (l : List UInt8) (k : Nat) : Nat := beN ((l.drop k).take 2)
theorem at2_lt (l : List UInt8) (k : Nat) : at2 l k ≤ 65535 := by
  have h := beN_lt ((l.drop k).take 2)
  have h2 : ((l.drop k).take 2).length ≤ 2 := by rw [List.length_take]; omega
  have h3 : 256 ^ ((l.drop k).take 2).length ≤ 256 ^ 2 := Nat.pow_le_pow_right (by omega) h2
  unfold at2; omega
-- why bytes are refused; 0: they are not
def whyU (fr to_ : Int) (l : List UInt8) : Int :=
  if l.length < 8 then 2 else if at2 l 4 < 8 then 3 else if l.length < at2 l 4 then 2 else if at2 l 6 ≠ 0 ∧ sumU fr to_ (l.take (at2 l 4)) ≠ 0 then 4 else 0
-- small laws of memory
theorem own_only {w w' : World} {base g : Nat} {e : TypeId} {size n : Nat} {v : Value} {xs : List Value} (h : w.ownsRow base e size v n xs) (k : w.grownBy w' (some g)) (hg : g < base) : w'.ownsRow base e size v n xs := by
  refine ⟨h.1, ?_⟩
  rcases h.2 with h0 | ⟨g', cap, cur, rfl, hg', hh, hr⟩
  · exact .inl h0
  · exact .inr ⟨g', cap, cur, rfl, hg', Blk.only hh k (by omega), hr⟩
theorem step_store_blk {P : Program} {ops : Array Oper} {op : Oper} {a : Act} {w : World} {K : Act → World → Prop} {Q : Exit → Act → World → Prop} {E : Prop} (hgd : op.guard = none) (ty : TypeId) (x y : Tmp) (ho : op.op = .store ty (.tmp x) (.tmp y))
    (g o : Nat) (cells : List Value) (hx : a.tmps.getD x undef = .pointer (some ⟨g, o, none⟩)) (hy : a.tmps.getD y undef = .agg cells.toArray) (t : TypeId) (cur : List Value) (hB : Blk w g t cur.toArray) (hfit : o + cells.length ≤ cur.length)
    (hi : (P.info? ty).map (·.size) = some cells.length) (h1 : ∀ v ∈ cells, v.oneCell' = true)
    (h : ∀ w', Blk w' g t (splice cur o cells).toArray → w.grownBy w' (some g) → K (a.put op.dst undef) w') : if Region.wanted op (yielded ops a.tmps) = true then Oper.wp P op a w K Q else E := by
  have hw : Region.wanted op (yielded ops a.tmps) = true := by simp [Region.wanted, hgd]
  rw [if_pos hw]
  exact wp_store_blk ty x y ho g o cells hx hy t cur hB hfit hi h1 h
theorem own_nil {w : World} {base n : Nat} {v : Value} {D : List UInt8} (h : w.ownsRow base 5 1 v n ([] ++ Lib.byteCells D)) : ∃ A c, v = .slice A D.length c ∧ w.ownsRow base 5 1 (.slice A D.length c) D.length (Lib.byteCells D) := by
  obtain ⟨A, c, rfl⟩ := own_slice h
  have e : n = D.length := by have := h.1; rw [List.nil_append, byteCells_len] at this; omega
  subst e
  exact ⟨A, c, rfl, h⟩
-- an append onto an empty row that has no room
theorem run_append_zero {P : Program} (w : World) (t ty e : TypeId) (i : TypeInfo) (z : Value) (size bytes : Nat) (ht : P.underlying t = some (.slice e)) (hi : P.info? e = some i) (hz : i.zero = some z) (hsize : i.size = size) (hby : i.bytes = bytes) (hzs : z.cells.size = size) (hsz : 0 < size)
    (g : Nat) (A : Option Addr) (m c : Nat) (news : List Value) (hr : Reads w w.heap.size size A m news) (h63 : m ≤ 140737488355328) (hbytes : m * bytes ≤ 140737488355328) :
    ∃ A' c' w', (Builtin.append_ #[t, t] ty #[.slice (some ⟨g, 0, none⟩) 0 0, .slice A m c]).run P w = .ok (.slice A' m c') w' ∧ Reads w' w'.heap.size size A' m news ∧ Below w.heap.size w w' ∧ (0 < m → ∃ g', A' = some ⟨g', 0, none⟩ ∧ w.heap.size ≤ g') := by
  subst hsize hby
  by_cases hm : m = 0
  · subst hm
    have hn : news = [] := List.eq_nil_of_length_eq_zero (by simpa using hr.1)
    subst hn
    refine ⟨some ⟨g, 0, none⟩, 0, w, ?_, ⟨by simp, fun h => absurd h (by omega)⟩, Below.refl _ _, fun h => absurd h (by omega)⟩
    cases A <;> simp [Builtin.append_, run_underlying ht, sizeOf, typeInfo, hi, Builtin.lenOf, Builtin.firstCells, loadCells, loadCellsFrom, storeCells]
  · obtain ⟨ad, rfl, _, hcell⟩ := hr.2 (by omega)
    have hg := run_append_grow (P := P) w t ty e i z ht hi hz ⟨g, 0, none⟩ 0 0 [] (by simp) (by simp) ad m c news hr.1 hcell (by omega) (by omega) (growslice_fits (by omega) (by rw [Nat.zero_add]; exact hbytes))
    have hge := grownCap_ge w (0 + m) 0 e
    rw [Nat.zero_add] at hg hge
    refine ⟨_, _, _, hg, ⟨hr.1, fun _ => ⟨_, rfl, by simp, fun j u hu => ?_⟩⟩, ?_, fun _ => ⟨_, rfl, Nat.le_refl _⟩⟩
    · have hj : j < news.length := (List.getElem?_eq_some_iff.1 hu).1
      rw [Addr.add_mid, Nat.zero_add]
      refine ((Blk.new w.drew e _).cell j).trans ?_
      rw [Array.getElem?_append_left (by simp; omega)]
      simpa using hu
    · exact ((Below.refl _ _).drew).alloc (by simp) _
theorem step_app0 {P : Program} {T E : TypeId} {size bytes : Nat} {z : Value} (S : SliceTy P T E size bytes z) {ops : Array Oper} {o : Oper} {a : Act} {K : Act → World → Prop} {Q : Exit → Act → World → Prop} {X : Prop} {w : World} (hgd : o.guard = none) (s x : Operand)
    (ho : o.op = .call { callee := .builtin .append, args := #[s, x], argTypes := #[T, T] })
    (g : Nat) (hs : a.eval s = .slice (some ⟨g, 0, none⟩) 0 0) (A : Option Addr) (m c : Nat) (news : List Value) (hx : a.eval x = .slice A m c) (hr : Reads w w.heap.size size A m news) (hlen : m ≤ 140737488355328) (hbytes : m * bytes ≤ 140737488355328)
    (h : ∀ A' c' w', Reads w' w'.heap.size size A' m news → Below w.heap.size w w' → (0 < m → ∃ g', A' = some ⟨g', 0, none⟩ ∧ w.heap.size ≤ g') → K (a.put o.dst (.slice A' m c')) w') :
    if Region.wanted o (yielded ops a.tmps) = true then Oper.wp P o a w K Q else X := by
  have hw : Region.wanted o (yielded ops a.tmps) = true := by simp [Region.wanted, hgd]
  rw [if_pos hw]
  obtain ⟨i, hi, hz0, hz1, hz2⟩ := info_parts S.hi
  obtain ⟨A', c', w', hrun, h2, h3, h4⟩ := run_append_zero (P := P) w T o.type E i z size bytes S.ht hi hz0 hz1 hz2 S.hz S.hs g A m c news hr hlen hbytes
  unfold Oper.wp execOp
  simp only [ho, resolve, invoke, builtin, Sem.run_bind, Sem.run_pure, Result.andThen_ok, List.map_toArray, List.map_cons, List.map_nil, hs, hx, hrun]
  exact h A' c' w' h2 h3 h4
-- all as it was but a datagram's block, which is there
def SS (W : World) (b : Nat) (w : World) : Prop := W.grownBy w (some b) ∧ ∃ x0 x1 x2 x3 x4, Blk w b 37 #[x0, x1, x2, x3, x4]
theorem SS.nx {W w w' : World} {b : Nat} (h : SS W b w) (k : Below w.heap.size w w') : SS W b w' := by
  obtain ⟨h1, x0, x1, x2, x3, x4, h2⟩ := h
  exact ⟨only_nx h1 k, x0, x1, x2, x3, x4, h2.nx k⟩
theorem SS.al {W w : World} {b : Nat} (h : SS W b w) (o : Obj) : SS W b (w.alloc o) := h.nx (Below.refl _ _ |>.alloc (Nat.le_refl _) o)
theorem SS.drew {W w : World} {b : Nat} (h : SS W b w) : SS W b w.drew := h.nx (rf w).drew
theorem SS.set5 {W w : World} {b : Nat} (h : SS W b w) (y0 y1 y2 y3 y4 : Value) : SS W b (((((w.setCell ⟨b, 0, none⟩ y0).setCell ⟨b, 1, none⟩ y1).setCell ⟨b, 2, none⟩ y2).setCell ⟨b, 3, none⟩ y3).setCell ⟨b, 4, none⟩ y4) ∧
    Blk (((((w.setCell ⟨b, 0, none⟩ y0).setCell ⟨b, 1, none⟩ y1).setCell ⟨b, 2, none⟩ y2).setCell ⟨b, 3, none⟩ y3).setCell ⟨b, 4, none⟩ y4) b 37 #[y0, y1, y2, y3, y4] ∧ w.grownBy (((((w.setCell ⟨b, 0, none⟩ y0).setCell ⟨b, 1, none⟩ y1).setCell ⟨b, 2, none⟩ y2).setCell ⟨b, 3, none⟩ y3).setCell ⟨b, 4, none⟩ y4) (some b) := by
  have h0 := fun (V : World) (h1 : V.grownBy w (some b)) => only_setCell (p := ⟨b, 4, none⟩) (only_setCell (p := ⟨b, 3, none⟩) (only_setCell (p := ⟨b, 2, none⟩) (only_setCell (p := ⟨b, 1, none⟩) (only_setCell (p := ⟨b, 0, none⟩) h1 (.inl rfl) y0) (.inl rfl) y1) (.inl rfl) y2) (.inl rfl) y3) (.inl rfl) y4
  obtain ⟨h1, x0, x1, x2, x3, x4, h2⟩ := h
  have hB : Blk (((((w.setCell ⟨b, 0, none⟩ y0).setCell ⟨b, 1, none⟩ y1).setCell ⟨b, 2, none⟩ y2).setCell ⟨b, 3, none⟩ y3).setCell ⟨b, 4, none⟩ y4) b 37 #[y0, y1, y2, y3, y4] := ((((h2.set_ 0 y0).set_ 1 y1).set_ 2 y2).set_ 3 y3).set_ 4 y4
  exact ⟨⟨h0 W h1, y0, y1, y2, y3, y4, hB⟩, hB, h0 w (World.grownBy.refl w _)⟩
theorem SS.fresh {W w : World} {b m : Nat} {A : Option Addr} (h : SS W b w) (F : 0 < m → ∃ g', A = some ⟨g', 0, none⟩ ∧ w.heap.size ≤ g') : 0 < m → ∃ g', A = some ⟨g', 0, none⟩ ∧ g' ≠ b := fun hm => by
  obtain ⟨_, _, _, _, _, _, h2⟩ := h
  obtain ⟨g', h3, h4⟩ := F hm
  exact ⟨g', h3, by have := h2.lt; omega⟩
theorem SS.fin {w w' : World} {b m : Nat} {A : Option Addr} {D : List UInt8} (R : Reads w w.heap.size 1 A m (Lib.byteCells D)) (F : 0 < m → ∃ g', A = some ⟨g', 0, none⟩ ∧ g' ≠ b) (k : w.grownBy w' (some b)) : Bytes w' A D ∧ Hid (m = D.length) := by
  have e : m = D.length := by have := R.1; rw [byteCells_len] at this; omega
  subst e
  by_cases h0 : 0 < D.length
  · obtain ⟨g', rfl, hg⟩ := F h0
    exact ⟨bytes_only R k (by rintro x h; injection h with h; subst h; exact hg), rfl⟩
  · obtain rfl : D = [] := List.eq_nil_of_length_eq_zero (by omega)
    exact ⟨Bytes.nil _ _, rfl⟩
theorem gets (l : List UInt8) (k : Nat) (A : Option Addr) (c : Nat) (w : World) (x : Int) (h : Bytes w A l) (hx : x = k) (hk : k + 1 < l.length) (hl : l.length ≤ 1099511627776) :
    Calls Try.prog 54 #[.slice A l.length c, .int .i64 x] w fun e w' => e = .returned (.int .i64 (at2 l k)) ∧ Below w.heap.size w w' :=
  (get2 w A l _ c k x h hx rfl hk hl).mono fun e w' ⟨h1, m, h2⟩ => ⟨h1, by rw [h2]; exact dn (rf w) m⟩
set_option maxHeartbeats 400000 in
theorem rud_short (fr to_ : Int) (A : Option Addr) (l : List UInt8) (c : Nat) (w : World) (h : l.length < 8) :
    Calls Try.prog 26 #[.int .u32 fr, .int .u32 to_, .slice A l.length c] w fun e w' => e = .returned (.tuple #[zDg, .int .i64 2]) ∧ Below w.heap.size w w' := by
  have hi : (l.length : Int) < 8 := by omega
  clear h
  go_enter Try.func26, Try.ntmps26
  go_wp2
  exact bodyPost_ret (v := .tuple #[zDg, .int .i64 2]) ((run_results_cell_tmp rfl _ _ _ _ _ _ _ rfl (Blk.new w 37 #[.int .u32 0, .int .i64 0, .int .u32 0, .int .i64 0, .slice none 0 0]) Try.underlying37 rfl (by kernel_rfl)).trans rfl) rfl ⟨rfl, al (rf w) _⟩
set_option maxHeartbeats 800000 in
theorem rud_form (n4 : Nat) (fr to_ : Int) (A : Option Addr) (l : List UInt8) (c : Nat) (w : World) (hb : Bytes w A l) (h8 : 8 ≤ l.length) (hl : l.length ≤ 70000) (G4 : Hid (at2 l 4 = n4)) (h4 : n4 < 8) :
    Calls Try.prog 26 #[.int .u32 fr, .int .u32 to_, .slice A l.length c] w fun e w' => e = .returned (.tuple #[zDg, .int .i64 3]) ∧ Below w.heap.size w w' := by
  have i8 : ¬ (l.length : Int) < 8 := by omega
  have i4 : (n4 : Int) < 8 := by omega
  clear h4
  rw [← zDcV]
  go_enter Try.func26, Try.ntmps26
  go_wp2_with fail
  refine (gets l 4 A c _ 4 (hb.al _) rfl (by omega) (by omega)).mono ?_
  rintro e w1 ⟨rfl, b1⟩
  rw [G4.out]
  have BR : Blk w1 w.heap.size 37 zDc.toArray := (Blk.new w _ _).nx b1
  go_wp2_with (refine wpList_store_row rfl 37 (.tmp 6) (.tmp 17) rfl _ zDc.toArray rfl rfl _ _ BR (by kernel_rfl) rfl (by kernel_rfl) ?_)
  exact bodyPost_ret (v := .tuple #[.agg zDc.toArray, .int .i64 3]) ((run_results_cell_tmp rfl _ _ _ _ _ _ _ rfl (setRow_heap _ _ _ _ _ _ BR) Try.underlying37 rfl (by kernel_rfl)).trans rfl) rfl ⟨rfl, below_setRow (nx (al (rf w) _) b1) (Nat.le_refl _) _⟩
set_option maxHeartbeats 800000 in
theorem rud_cut (n4 : Nat) (fr to_ : Int) (A : Option Addr) (l : List UInt8) (c : Nat) (w : World) (hb : Bytes w A l) (h8 : 8 ≤ l.length) (hl : l.length ≤ 70000) (G4 : Hid (at2 l 4 = n4)) (h4 : 8 ≤ n4) (hn : l.length < n4) :
    Calls Try.prog 26 #[.int .u32 fr, .int .u32 to_, .slice A l.length c] w fun e w' => e = .returned (.tuple #[zDg, .int .i64 2]) ∧ Below w.heap.size w w' := by
  have i8 : ¬ (l.length : Int) < 8 := by omega
  have i4 : ¬ (n4 : Int) < 8 := by omega
  have i5 : (l.length : Int) < n4 := by omega
  clear h4 hn
  rw [← zDcV]
  go_enter Try.func26, Try.ntmps26
  go_wp2_with fail
  refine (gets l 4 A c _ 4 (hb.al _) rfl (by omega) (by omega)).mono ?_
  rintro e w1 ⟨rfl, b1⟩
  rw [G4.out]
  have BR : Blk w1 w.heap.size 37 zDc.toArray := (Blk.new w _ _).nx b1
  go_wp2_with (refine wpList_store_row rfl 37 (.tmp 6) (.tmp 22) rfl _ zDc.toArray rfl rfl _ _ BR (by kernel_rfl) rfl (by kernel_rfl) ?_)
  exact bodyPost_ret (v := .tuple #[.agg zDc.toArray, .int .i64 2]) ((run_results_cell_tmp rfl _ _ _ _ _ _ _ rfl (setRow_heap _ _ _ _ _ _ BR) Try.underlying37 rfl (by kernel_rfl)).trans rfl) rfl ⟨rfl, below_setRow (nx (al (rf w) _) b1) (Nat.le_refl _) _⟩
set_option maxHeartbeats 800000 in
theorem rud_sum (n4 n6 s : Nat) (fr to_ : Int) (A : Option Addr) (l : List UInt8) (c : Nat) (w : World) (hb : Bytes w A l) (h8 : 8 ≤ l.length) (hl : l.length ≤ 70000) (hc : l.length ≤ c) (G4 : Hid (at2 l 4 = n4)) (G6 : Hid (at2 l 6 = n6)) (HS : Hid (sumU fr to_ (l.take n4) = s)) (h4 : 8 ≤ n4) (hn : n4 ≤ l.length) (h6 : n6 ≠ 0) (hs : s ≠ 0)
    (f0 : 0 ≤ fr) (f1 : fr ≤ 4294967295) (t0 : 0 ≤ to_) (t1 : to_ ≤ 4294967295) :
    Calls Try.prog 26 #[.int .u32 fr, .int .u32 to_, .slice A l.length c] w fun e w' => e = .returned (.tuple #[zDg, .int .i64 4]) ∧ Below w.heap.size w w' := by
  have i8 : ¬ (l.length : Int) < 8 := by omega
  have i4 : ¬ (n4 : Int) < 8 := by omega
  have i5 : ¬ (l.length : Int) < n4 := by omega
  have i6 : ((n6 : Int) != 0) = true := by rw [bne_iff_ne]; omega
  have i7 : ((s : Int) != 0) = true := by rw [bne_iff_ne]; omega
  have i9 : (n4 : Int) ≤ c := by omega
  have hn5 : n4 ≤ 65535 := by rw [← G4.out]; exact at2_lt l 4
  have HT : Hid ((l.take n4).length = n4) := by show _ = _; rw [List.length_take]; omega
  clear h4 h6 hs
  rw [← zDcV]
  go_enter Try.func26, Try.ntmps26
  go_wp2_with fail
  refine (gets l 4 A c _ 4 (hb.al _) rfl (by omega) (by omega)).mono ?_
  rintro e w1 ⟨rfl, b1⟩
  rw [G4.out]
  have bw1 := nx (al (rf w) _) b1
  go_wp2_with fail
  refine (gets l 6 A c _ 6 (hb.nx bw1) rfl (by omega) (by omega)).mono ?_
  rintro e w2 ⟨rfl, b2⟩
  rw [G6.out]
  have bw2 := nx bw1 b2
  go_wp2_with fail
  refine (summedF fr to_ A (l.take n4) n4 c _ (take_bytes (hb.nx bw2) hn) HT.out.symm (by rw [HT.out]; exact hn5) f0 f1 t0 t1).mono ?_
  rintro e w3 ⟨rfl, b3⟩
  rw [HS.out]
  have BR : Blk w3 w.heap.size 37 zDc.toArray := (((Blk.new w _ _).nx b1).nx b2).nx b3
  go_wp2_with (refine wpList_store_row rfl 37 (.tmp 6) (.tmp 35) rfl _ zDc.toArray rfl rfl _ _ BR (by kernel_rfl) rfl (by kernel_rfl) ?_)
  exact bodyPost_ret (v := .tuple #[.agg zDc.toArray, .int .i64 4]) ((run_results_cell_tmp rfl _ _ _ _ _ _ _ rfl (setRow_heap _ _ _ _ _ _ BR) Try.underlying37 rfl (by kernel_rfl)).trans rfl) rfl ⟨rfl, below_setRow (nx bw2 b3) (Nat.le_refl _) _⟩
set_option maxRecDepth 100000 in
set_option maxHeartbeats 6400000 in
theorem rud_ok (n4 n6 p0 p2 : Nat) (fr to_ : Int) (A : Option Addr) (l : List UInt8) (c : Nat) (w : World) (hb : Bytes w A l) (h8 : 8 ≤ l.length) (hl : l.length ≤ 70000) (hc : l.length ≤ c) (G0 : Hid (at2 l 0 = p0)) (G2 : Hid (at2 l 2 = p2)) (G4 : Hid (at2 l 4 = n4)) (G6 : Hid (at2 l 6 = n6))
    (h4 : 8 ≤ n4) (hn : n4 ≤ l.length) (h6 : n6 = 0 ∨ n6 ≠ 0 ∧ sumU fr to_ (l.take n4) = 0)
    (f0 : 0 ≤ fr) (f1 : fr ≤ 4294967295) (t0 : 0 ≤ to_) (t1 : to_ ≤ 4294967295) :
    Calls Try.prog 26 #[.int .u32 fr, .int .u32 to_, .slice A l.length c] w fun e w' => ∃ A' n' c', e = .returned (.tuple #[dgV fr p0 to_ p2 (.slice A' n' c'), .int .i64 0]) ∧ (Bytes w' A' ((l.take n4).drop 8) ∧ Below w.heap.size w w') ∧ Hid (n' = ((l.take n4).drop 8).length) := by
  obtain ⟨ad, rfl, _, _⟩ := hb.at_ (show 0 < l.length by omega)
  have i8 : ¬ (l.length : Int) < 8 := by omega
  have i4 : ¬ (n4 : Int) < 8 := by omega
  have i5 : ¬ (l.length : Int) < n4 := by omega
  have i9 : (n4 : Int) ≤ c := by omega
  have i10 : (8 : Int) ≤ n4 := by omega
  have hn5 : n4 ≤ 65535 := by rw [← G4.out]; exact at2_lt l 4
  have HT : Hid ((l.take n4).length = n4) := by show _ = _; rw [List.length_take]; omega
  have HTD : Hid (((l.take n4).drop 8).length = n4 - 8) := by show _ = _; rw [List.length_drop, HT.out]
  go_enter Try.func26, Try.ntmps26
  go_wp2_with fail
  refine (gets l 4 (some ad) c _ 4 (hb.al _) rfl (by omega) (by omega)).mono ?_
  rintro e w1 ⟨rfl, b1⟩
  rw [G4.out]
  have bw1 := nx (al (rf w) _) b1
  go_wp2_with fail
  refine (gets l 6 (some ad) c _ 6 (hb.nx bw1) rfl (by omega) (by omega)).mono ?_
  rintro e w2 ⟨rfl, b2⟩
  rw [G6.out]
  have bw2 := nx bw1 b2
  rcases h6 with h6 | ⟨h6, hs⟩
  focus
    have i6 : ((n6 : Int) != 0) = false := by rw [bne_eq_false_iff_eq]; omega
    clear h6
    go_wp2
    have BR : Blk w2 w.heap.size 37 zDc.toArray := ((Blk.new w _ _).nx b1).nx b2
    have bw := bw2
    clear bw2 b2 b1 bw1 i6
    generalize w2 = W at *
  rotate_left
  focus
    have i6 : ((n6 : Int) != 0) = true := by rw [bne_iff_ne]; omega
    clear h6
    go_wp2_with fail
    refine (summedF fr to_ (some ad) (l.take n4) n4 c _ (take_bytes (hb.nx bw2) hn) HT.out.symm (by rw [HT.out]; exact hn5) f0 f1 t0 t1).mono ?_
    rintro e W ⟨rfl, b3⟩
    rw [hs]
    have i7 : (((0 : Nat) : Int) != 0) = false := rfl
    clear hs
    go_wp2
    have BR : Blk W w.heap.size 37 zDc.toArray := (((Blk.new w _ _).nx b1).nx b2).nx b3
    have bw := nx bw2 b3
    clear bw2 b2 b1 bw1 i6 b3 i7
  all_goals
    have hbW := hb.nx bw
    have hs3 : Bytes W (cutA (some ad) c 8) ((l.take n4).drop 8) := cut_bytes (take_bytes hbW hn) HT.out.symm h4 (by omega)
    have zW := bw.size
    have BRlt := BR.lt
    have hne : ∀ x, some ad = some x → x.block ≠ w.heap.size := by rintro x h; injection h with h; subst h; omega
    have SW : SS W w.heap.size W := ⟨World.grownBy.refl W _, _, _, _, _, _, BR⟩
    have HBW : Hid (∀ W', SS W w.heap.size W' → Bytes W' (some ad) l) := fun W' k => bytes_only hbW k.1 hne
    have HSR : Hid (∀ W', SS W w.heap.size W' → Reads W' W'.heap.size 1 (cutA (some ad) c 8) (n4 - 8) (Lib.byteCells ((l.take n4).drop 8))) := fun W' k => by
      have h := bytes_only hs3 k.1 (by unfold cutA; split; exact hne; rintro x h; injection h with h; subst h; rw [block_of_add]; omega)
      unfold Bytes at h
      rwa [HTD.out] at h
    clear hs3 hne hbW
    unfold cutA at HSR
    generalize hD : (l.take n4).drop 8 = D at HSR HTD
    have HD := Lib.hid hD; clear hD
    have j1 : (8 : Int) ≤ c := by omega
    by_cases hc8 : c = 8
    focus
      have hc9 : (8 : Nat) = 8 := rfl
      subst hc8
      have hc8 := hc9
      obtain rfl : n4 = 8 := by omega
      clear hc9
  all_goals
    have tok1 : True := trivial
    go_region_held3 (fun w' => SS W w.heap.size w') (with_reducible (first | assumption | exact SW.drew | exact SS.al (by assumption) _ | exact SS.drew (by assumption) | exact (SS.set5 (by assumption) _ _ _ _ _).1 | exact SS.nx (by assumption) b5 | exact SS.nx (by assumption) b4 | exact SS.nx (by assumption) b3 | exact SS.drew (SS.al SW _) | exact SS.al (SS.drew SW) _ | fail))
      (first
        | (go_at_call 54; have _t := tok1; refine (gets l 0 (some ad) _ _ 0 (HBW.out _ (by assumption)) rfl (by omega) (by omega)).mono ?_; rintro e w3 ⟨rfl, b3⟩; rw [G0.out]; clear tok1 _t; have tok2 : True := trivial)
        | (go_at_call 54; have _t := tok2; refine (gets l 2 (some ad) _ _ 2 (HBW.out _ (by assumption)) rfl (by omega) (by omega)).mono ?_; rintro e w4 ⟨rfl, b4⟩; rw [G2.out]; clear tok2 _t)
        | (refine step_app0 stB rfl (.tmp 42) (.tmp 45) rfl _ rfl _ _ _ (Lib.byteCells D) rfl ?b2 (by omega) (by omega) ?_
           case b2 => have h := HSR.out _ (by assumption); simpa [hc8, Addr.add] using h
           intro A5 c5 w5 R5 b5 F5; have S5 : SS W w.heap.size w5 := SS.nx (by assumption) b5; obtain ⟨g5, x0, x1, x2, x3, x4, B5⟩ := id S5; have d0 : w5.cell? ⟨w.heap.size, 0, none⟩ = some x0 := B5.cell 0; have d1 : w5.cell? ⟨w.heap.size, 1, none⟩ = some x1 := B5.cell 1; have d2 : w5.cell? ⟨w.heap.size, 2, none⟩ = some x2 := B5.cell 2; have d3 : w5.cell? ⟨w.heap.size, 3, none⟩ = some x3 := B5.cell 3; have d4 : w5.cell? ⟨w.heap.size, 4, none⟩ = some x4 := B5.cell 4; have e0 := B5.frozen 0; have e1 := B5.frozen 1; have e2 := B5.frozen 2; have e3 := B5.frozen 3; have e4 := B5.frozen 4; have F6 : 0 < _ → ∃ g', A5 = some ⟨g', 0, none⟩ ∧ g' ≠ w.heap.size := SS.fresh (W := W) (by assumption) F5)
        | fail)
  all_goals
    have HB6 := Lib.hid (fun n => S5.set5 (.int .u32 fr) (.int .i64 p0) (.int .u32 to_) (.int .i64 p2) (.slice A5 n c5))
    clear d0 d1 d2 d3 d4 e0 e1 e2 e3 e4
    go_wp2
    refine bodyPost_ret (v := .tuple #[dgV fr p0 to_ p2 (.slice A5 _ c5), .int .i64 0]) ((run_results_cell_tmp rfl _ _ _ _ _ _ _ rfl (HB6.out _).2.1 Try.underlying37 rfl (by kernel_rfl)).trans rfl) rfl ⟨A5, _, c5, rfl, ⟨HD.out ▸ (SS.fin R5 F6 (HB6.out _).2.2).1, bw.trans (below_only (HB6.out _).1.1 (Nat.le_refl _) zW)⟩, HD.out ▸ (SS.fin R5 F6 (HB6.out 0).2.2).2⟩
end Go.Proofs.Ytbhplleaokncpaa
