/-
  Which bytes are a frame: the plain rule, and the program's Decode by it.
-/
import Derived.Test.YtbfaonojemkhdaaEnc
import Derived.Test.YtbfaonojemkhdaaOctRd
set_option linter.unusedVariables false
namespace Go.Proofs.Ytbfaonojemkhdaa
open Go.RowKit

-- copy into a block that is known whole, from a row of bytes: only that block turns
theorem step_cp {ops : Array Oper} {o : Oper} {a : Act} {w : World} {K : Act → World → Prop} {Q : Exit → Act → World → Prop} {E : Prop} (hgd : o.guard = none) (d s : Operand)
    (ho : o.op = .call { callee := .builtin .copy, args := #[d, s], argTypes := #[39, 39] })
    (g off dLen dCap : Nat) (hd : a.eval d = .slice (some ⟨g, off, none⟩) dLen dCap) (A : Option Addr) (l : List UInt8) (n c : Nat) (hs : a.eval s = .slice A n c) (hn : n = l.length) (hl : l.length ≤ dLen)
    (t : TypeId) (cur : List Value) (hg : Blk w g t cur.toArray) (hb : Bytes w A l) (hfit : off + l.length ≤ cur.length)
    (h : ∀ w', Blk w' g t (splice cur off (Lib.byteCells l)).toArray → w.grownBy w' (some g) → K (a.put o.dst (goInt l.length)) w') :
    if Region.wanted o (yielded ops a.tmps) = true then Oper.wp Try.prog o a w K Q else E := by
  subst hn
  have hw : Region.wanted o (yielded ops a.tmps) = true := by simp [Region.wanted, hgd]
  rw [if_pos hw]
  have hsz : (Try.prog.info? 5).map (·.size) = some 1 := by kernel_rfl
  by_cases h0 : l.length = 0
  · obtain rfl : l = [] := List.eq_nil_of_length_eq_zero h0
    have hrun := run_copy_none (P := Try.prog) w 39 39 o.type 5 (some ⟨g, off, none⟩) A dLen dCap ([] : List UInt8).length c Try.underlying39 hsz (by simp)
    unfold Oper.wp
    simp [execOp, ho, resolve, invoke, builtin, hd, hs, Result.andThen]
    simp at hrun
    simp [hrun]
    exact h w (by simpa [splice, Lib.byteCells] using hg) (World.grownBy.refl w _)
  · obtain ⟨ad, rfl, _, hsrc⟩ := hb.2 (by omega)
    have hrun := run_copy_row (P := Try.prog) w 39 39 o.type 5 g off dLen dCap ad l.length c cur.toArray t (Lib.byteCells l) Try.underlying39 hsz hg (by rw [byteCells_len]; exact (Nat.min_eq_left hl).symm) hsrc (by rw [byteCells_len]; simpa using hfit) (one_u8 l)
    rw [byteCells_len] at hrun
    unfold Oper.wp
    simp [execOp, ho, resolve, invoke, builtin, hd, hs, hrun, Result.andThen]
    refine h _ ?_ ?_
    · have := setRow_heap w g _ (splice cur off (Lib.byteCells l)).toArray t _ hg
      simpa [splice, Blk, byteCells_len] using this
    · exact ⟨rfl, rfl, rfl, by simp, fun i _ hi => setRow_other w g i _ (by intro e; exact hi (by rw [e]))⟩

def mac6 (l : List UInt8) (o : Nat) : Mac := ⟨l.getD o 0, l.getD (o + 1) 0, l.getD (o + 2) 0, l.getD (o + 3) 0, l.getD (o + 4) 0, l.getD (o + 5) 0⟩
def kindOf (l : List UInt8) : Int := beN ((l.drop 12).take 2)
-- the reader's steps over a long enough row
theorem rd_ok (l : List UInt8) (m : Nat) (h : m ≤ l.length) : rdN l 0 m = (l.take m, l.drop m, 0) := by
  unfold rdN; rw [if_neg (by omega), Int.toNat_natCast]
theorem rraw_ok (w : World) (b : Nat) (l : List UInt8) (m : Nat) (x : Int) (h : IsR w b l 0) (hm : m ≤ l.length) (hx : x = m) :
    Calls Try.prog 36 #[.pointer (some ⟨b, 0, none⟩), .int .i64 x] w fun e w' => ∃ A' c', e = .returned (.slice A' m c') ∧ w'.ownsRow w.heap.size 5 1 (.slice A' m c') m (Lib.byteCells (l.take m)) ∧ IsR w' b (l.drop m) 0 ∧ w.grownBy w' (some b) := by
  subst hx
  refine (rraw w b l 0 m h (.inl rfl)).mono ?_
  rintro e w' ⟨v, rfl, own, hR, g⟩
  rw [rd_ok l m hm] at own hR
  have hlen : (l.take m).length = m := by rw [List.length_take]; omega
  rw [hlen] at own
  obtain ⟨A', c', rfl⟩ := own_slice own
  exact ⟨A', c', rfl, own, hR, g⟩
theorem own_bytes {w : World} {base m : Nat} {A : Option Addr} {c : Nat} {l : List UInt8} (h : w.ownsRow base 5 1 (.slice A m c) m (Lib.byteCells l)) : Bytes w A l ∧ m = l.length := by
  have h1 := h.1
  rw [byteCells_len, Nat.mul_one] at h1
  subst h1
  exact ⟨Bytes.own h, rfl⟩
theorem IsR.only' {w w' : World} {b g : Nat} {l : List UInt8} {err : Int} {t : TypeId} {cs : Array Value} (h : IsR w b l err) (k : w.grownBy w' (some g)) (hg : Blk w g t cs) (ht : t ≠ 80) (ht2 : t ≠ 71) (ht3 : t ≠ 5) : IsR w' b l err := by
  obtain ⟨A, n, c, x, h1, h2, h3, h4, h5, h6, h7⟩ := h
  exact ⟨A, n, c, x, h1.grown k (by intro e; injection e with e; exact hg.ne_ h1 ht e.symm), h2.grown k (by intro e; injection e with e; exact hg.ne_ h2 ht2 e.symm), h3, h4, bytes_only h5 k (h6.ne hg ht3), h6.only k hg ht3, h7⟩
theorem IsR.lt {w : World} {b : Nat} {l : List UInt8} {err : Int} (h : IsR w b l err) : b < w.heap.size := by
  obtain ⟨A, n, c, x, h1, _⟩ := h
  exact h1.lt
theorem take6 (l : List UInt8) (o : Nat) (h : o + 6 ≤ l.length) : (l.drop o).take 6 = (mac6 l o).l := by
  apply List.ext_getElem
  · simp [Mac.l]; omega
  · intro i h1 h2
    have hi : i < 6 := by simpa [Mac.l] using h2
    rw [List.getElem_take, List.getElem_drop]
    match i, hi with
    | 0, _ => simp [Mac.l, mac6, List.getD_eq_getElem?_getD, List.getElem?_eq_getElem (show o < l.length by omega)]
    | 1, _ => simp [Mac.l, mac6, List.getD_eq_getElem?_getD, List.getElem?_eq_getElem (show o + 1 < l.length by omega)]
    | 2, _ => simp [Mac.l, mac6, List.getD_eq_getElem?_getD, List.getElem?_eq_getElem (show o + 2 < l.length by omega)]
    | 3, _ => simp [Mac.l, mac6, List.getD_eq_getElem?_getD, List.getElem?_eq_getElem (show o + 3 < l.length by omega)]
    | 4, _ => simp [Mac.l, mac6, List.getD_eq_getElem?_getD, List.getElem?_eq_getElem (show o + 4 < l.length by omega)]
    | 5, _ => simp [Mac.l, mac6, List.getD_eq_getElem?_getD, List.getElem?_eq_getElem (show o + 5 < l.length by omega)]
theorem own_setRow {w : World} {base g : Nat} {e : TypeId} {size : Nat} {v : Value} {n : Nat} {xs : List Value} {cs : Array Value} (h : w.ownsRow base e size v n xs) (hg : g < base) : (w.setRow g cs).ownsRow base e size v n xs := by
  refine ⟨h.1, ?_⟩
  rcases h.2 with h0 | ⟨g', cap, cur, rfl, hg', hh, hr⟩
  · exact .inl h0
  · exact .inr ⟨g', cap, cur, rfl, hg', (setRow_other w g g' cs (by omega)).trans hh, hr⟩
def zeroF : List Value := [.int .u8 0, .int .u8 0, .int .u8 0, .int .u8 0, .int .u8 0, .int .u8 0, .int .u8 0, .int .u8 0, .int .u8 0, .int .u8 0, .int .u8 0, .int .u8 0, .int .i64 0, .slice none 0 0]
set_option maxRecDepth 100000 in
set_option maxHeartbeats 800000 in
theorem decode_ok (A : Option Addr) (l : List UInt8) (c : Nat) (w : World) (h : Bytes w A l) (h1 : 14 ≤ l.length) (h2 : l.length ≤ 1514) (hk : 1536 ≤ kindOf l) :
    Calls Try.prog 24 #[.slice A l.length c] w fun e w' => ∃ A' n' c', e = .returned (.tuple #[frV (mac6 l 0) (mac6 l 6) (kindOf l) (.slice A' n' c'), .int .i64 0]) ∧ IsRow w w' (l.drop 14) (.slice A' n' c') ∧ Hid (n' = (l.drop 14).length) := by
  generalize hm1 : mac6 l 0 = m1
  generalize hm2 : mac6 l 6 = m2
  generalize hkk : kindOf l = k at hk ⊢
  have HM1 := Lib.hid hm1; clear hm1
  have HM2 := Lib.hid hm2; clear hm2
  have HKK := Lib.hid hkk; clear hkk
  have i1 : ¬ (1514 : Int) < l.length := by omega
  go_enter Try.func24, Try.ntmps24
  go_wp2_with fail
  refine (newReader _ A l _ c (h.al _) rfl (by omega)).mono ?_
  rintro e w1 ⟨b, rfl, hb, hR, hb1⟩
  have BR : Blk w1 w.heap.size 41 zeroF.toArray := (Blk.new w _ _).nx hb1
  go_wp2_with fail
  have BF : ∀ (W : World), Blk (W.alloc (.cells zeroF.toArray 41)) W.heap.size 41 zeroF.toArray := fun W => Blk.new W _ _
  have hR1 : IsR (w1.alloc (.cells zeroF.toArray 41)).drew b l 0 := hR.nx ((rf w1).alloc (Nat.le_refl _) _).drew
  go_region_held3 (fun w' => True) (exact trivial)
    (first
    | (go_at_call 36; refine (rraw_ok _ b l 6 6 hR1 (by omega) rfl).mono ?_; rintro e w2 ⟨A2, c2, rfl, own2, hR2, g2⟩; rw [show l.take 6 = m1.l from (take6 l 0 (by omega)).trans (by rw [HM1.out])] at own2)
    | (refine step_cp rfl (.tmp 13) (.tmp 15) rfl w1.heap.size 0 6 6 rfl A2 m1.l 6 c2 rfl rfl (Nat.le_refl 6) 41 zeroF ?k1 (own_bytes own2).1 (by show 0 + 6 ≤ 14; omega) ?_
       case k1 => exact (show Blk (w1.alloc (.cells zeroF.toArray 41)).drew _ _ _ from BF w1).grown g2 (by have := hR.lt; intro e; injection e with e; omega)
       intro w3 hB3 g3))
  have hlt := hR.lt
  have B2 : Blk w2 w1.heap.size 41 zeroF.toArray := (show Blk (w1.alloc (.cells zeroF.toArray 41)).drew _ _ _ from BF w1).grown g2 (by intro e; injection e with e; omega)
  have hR3 := hR2.only' g3 B2 (by decide) (by decide) (by decide)
  have R3 : Blk w3 w.heap.size 41 zeroF.toArray := ((show Blk (w1.alloc (.cells zeroF.toArray 41)).drew _ _ _ from BR.alloc _).grown g2 (by intro e; injection e with e; have := hb; simp at this; omega)).grown g3 (by intro e; injection e with e; have := BR.lt; omega)
  have bel3 : Below w.heap.size w w3 := by
    have hbw : w.heap.size ≤ b := by have := hb; simp at this; omega
    have z1 := hb1.size
    simp at z1
    have b1 : Below w.heap.size w w1 := nx (al (rf w) _) hb1
    have b2 : Below w.heap.size w w2 := (b1.alloc b1.size _).drew.trans (only_below g2 hbw (by simp; omega))
    exact b2.trans (only_below g3 (by omega) b2.size)
  have HB3 := Lib.hid hB3
  clear hB3 g2 g3 own2 hR1 hR2 B2 BF hb1 BR
  have hl6 : 6 ≤ (l.drop 6).length := by rw [List.length_drop]; omega
  have B3 : Blk w3 w1.heap.size 41 (splice zeroF 0 (Lib.byteCells m1.l)).toArray := HB3.out
  have hR3d : IsR w3.drew b (l.drop 6) 0 := hR3
  go_wp2
  go_region_held3 (fun w' => True) (exact trivial)
    (first
    | (go_at_call 36; refine (rraw_ok _ b (l.drop 6) 6 6 hR3d hl6 rfl).mono ?_; rintro e w4 ⟨A4, c4, rfl, own4, hR4, g4⟩; rw [(take6 l 6 (by omega)).trans (congrArg Mac.l HM2.out)] at own4)
    | (refine step_cp rfl (.tmp 18) (.tmp 20) rfl w1.heap.size 6 6 6 rfl A4 m2.l 6 c4 rfl rfl (Nat.le_refl 6) 41 (splice zeroF 0 (Lib.byteCells m1.l)) ?k2 (own_bytes own4).1 (by show 6 + 6 ≤ 14; omega) ?_
       case k2 => exact (show Blk w3.drew _ _ _ from B3).grown g4 (by have := hR.lt; intro e; injection e with e; omega)
       intro w5 hB5 g5))
  have hbw : w.heap.size ≤ b := by have := hb; simp at this; omega
  have bel5 : Below w.heap.size w w5 := (bel3.drew.trans (only_below g4 hbw bel3.size)).trans (only_below g5 (by omega) (Nat.le_trans bel3.size g4.size))
  have B4 : Blk w4 w1.heap.size 41 (splice zeroF 0 (Lib.byteCells m1.l)).toArray := (show Blk w3.drew _ _ _ from B3).grown g4 (by intro e; injection e with e; omega)
  have hR5 : IsR w5 b (l.drop 12) 0 := by have := hR4.only' g5 B4 (by decide) (by decide) (by decide); rwa [List.drop_drop] at this
  have hRb : Hid (w.heap.size ≠ b) := by have h := hb; simp at h; show w.heap.size ≠ b; omega
  have hRf : Hid (w.heap.size ≠ w1.heap.size) := by show w.heap.size ≠ w1.heap.size; omega
  have R5 : Blk w5 w.heap.size 41 zeroF.toArray := ((show Blk w3.drew _ _ _ from R3).grown g4 (by intro e; injection e with e; exact hRb.out e)).grown g5 (by intro e; injection e with e; exact hRf.out e)
  have B5 : Blk w5 w1.heap.size 41 #[.int .u8 m1.a.toNat, .int .u8 m1.b.toNat, .int .u8 m1.c.toNat, .int .u8 m1.d.toNat, .int .u8 m1.e.toNat, .int .u8 m1.f.toNat, .int .u8 m2.a.toNat, .int .u8 m2.b.toNat, .int .u8 m2.c.toNat, .int .u8 m2.d.toNat, .int .u8 m2.e.toNat, .int .u8 m2.f.toNat, .int .i64 0, .slice none 0 0] := hB5
  clear hB5 B4 B3 HB3 R3 g4 g5 own4 hR4 hR3 hR3d hl6 bel3
  go_wp2_with fail
  refine (rtwo_rd _ b (l.drop 12) 0 hR5 (.inl rfl)).mono ?_
  rintro e w6 ⟨rfl, hR6, g6⟩
  have hd2 : rdN (l.drop 12) 0 2 = ((l.drop 12).take 2, (l.drop 12).drop 2, 0) := rd_ok (l.drop 12) 2 (by rw [List.length_drop]; omega)
  rw [hd2] at hR6 ⊢
  rw [List.drop_drop] at hR6
  have hkd : (beN ((l.drop 12).take 2) : Int) = k := HKK.out
  rw [hkd]
  clear hkd hd2
  have B6 := B5.grown g6 (by intro e; injection e with e; omega)
  have R6 := R5.grown g6 (by intro e; injection e with e; exact hRb.out e)
  have bel6 : Below w.heap.size w w6 := bel5.trans (only_below g6 hbw bel5.size)
  have hR6' : IsR w6 b (l.drop 14) 0 := hR6
  have c12 := B6.cell 12
  simp only [List.getElem?_toArray, List.getElem?_cons_succ, List.getElem?_cons_zero] at c12
  have f12 := B6.frozen 12
  have B7 : ∀ q : Int, Blk (w6.setCell ⟨w1.heap.size, 12, none⟩ (.int .i64 q)) w1.heap.size 41 #[.int .u8 m1.a.toNat, .int .u8 m1.b.toNat, .int .u8 m1.c.toNat, .int .u8 m1.d.toNat, .int .u8 m1.e.toNat, .int .u8 m1.f.toNat, .int .u8 m2.a.toNat, .int .u8 m2.b.toNat, .int .u8 m2.c.toNat, .int .u8 m2.d.toNat, .int .u8 m2.e.toNat, .int .u8 m2.f.toNat, .int .i64 q, .slice none 0 0] := fun q => B6.set_ 12 _
  have R7 := R6.far (p := ⟨w1.heap.size, 12, none⟩) hRf.out (.int .i64 k)
  have hR7 : IsR (w6.setCell ⟨w1.heap.size, 12, none⟩ (.int .i64 k)) b (l.drop 14) 0 := hR6'.only' (only_setCell (p := ⟨w1.heap.size, 12, none⟩) (World.grownBy.refl w6 _) (.inl rfl) _) B6 (by decide) (by decide) (by decide)
  have bel7 : Below w.heap.size w (w6.setCell ⟨w1.heap.size, 12, none⟩ (.int .i64 k)) := bel6.setCell (by show _ ≤ w1.heap.size; omega) _
  have HR7 := Lib.hid (And.intro R7 (And.intro hR7 (And.intro bel7 (B7 k))))
  clear B5 R5 R6 hR6 hR6' bel5 bel6 hR5 g6 R7 hR7 bel7 B7 B6
  go_wp2_with fail
  obtain ⟨R7, hR7, bel7, B7⟩ := HR7.out
  generalize w6.setCell ⟨w1.heap.size, 12, none⟩ (.int .i64 k) = w7 at R7 hR7 bel7 B7 ⊢
  clear c12 f12 HR7
  refine (rerr _ b _ 0 hR7).mono ?_
  rintro e w8 ⟨rfl, rfl⟩
  have c12 := B7.cell 12
  simp only [List.getElem?_toArray, List.getElem?_cons_succ, List.getElem?_cons_zero] at c12
  have BB := Lib.hid B7; clear B7
  go_wp2_with fail
  refine (rleft _ b _ 0 hR7).mono ?_
  rintro e w9 ⟨rfl, rfl⟩
  go_wp2_with fail
  refine (rraw_ok _ b (l.drop 14) (l.drop 14).length _ hR7 (Nat.le_refl _) (by simp)).mono ?_
  rintro e w10 ⟨A8, c8, rfl, own8, hR8, g8⟩
  rw [List.take_length] at own8
  have B8 := BB.out.grown g8 (by intro e; injection e with e; omega)
  have R8 := R7.grown g8 (by intro e; injection e with e; exact hRb.out e)
  have bel8 : Below w.heap.size w w10 := bel7.trans (only_below g8 hbw bel7.size)
  have c13 := B8.cell 13
  simp only [List.getElem?_toArray, List.getElem?_cons_succ, List.getElem?_cons_zero] at c13
  have f13 := B8.frozen 13
  have zz := bel7.size
  generalize hn8 : (l.drop 14).length = n8 at own8 ⊢
  have HN8 := Lib.hid hn8; clear hn8
  have B9 := B8.set_ 13 (.slice A8 n8 c8)
  have R9 := R8.far (p := ⟨w1.heap.size, 13, none⟩) hRf.out (.slice A8 n8 c8)
  have ZF : Hid (w1.heap.size < w9.heap.size) := BB.out.lt
  clear R7 hR7 bel7 BB g8 c12 R8 hR8 hR
  go_wp2_with (first | (refine wpList_load_row rfl 41 (.tmp 5) rfl _ rfl _ _ _ _ B9 Try.underlying41 rfl (by kernel_rfl) ?_) | (refine wpList_store_row rfl 41 (.tmp 2) (.tmp 42) rfl _ _ rfl rfl _ _ R9 (by kernel_rfl) rfl (by kernel_rfl) ?_))
  have own9 := own_base (b' := w.heap.size) (own_setRow (g := w.heap.size) (cs := (#[Value.int .u8 m1.a.toNat, .int .u8 m1.b.toNat, .int .u8 m1.c.toNat, .int .u8 m1.d.toNat, .int .u8 m1.e.toNat, .int .u8 m1.f.toNat, .int .u8 m2.a.toNat, .int .u8 m2.b.toNat, .int .u8 m2.c.toNat, .int .u8 m2.d.toNat, .int .u8 m2.e.toNat, .int .u8 m2.f.toNat, .int .i64 k, .slice none 0 0].setIfInBounds 13 (.slice A8 n8 c8))) (ownsRow_setCell_below own8 (a := ⟨w1.heap.size, 13, none⟩) ZF.out (.slice A8 n8 c8)) (by have := ZF.out; have := hbw; omega)) zz
  refine bodyPost_ret (v := .tuple #[frV m1 m2 k (.slice A8 n8 c8), .int .i64 0]) ((run_results_cell_tmp rfl _ _ _ _ _ _ _ rfl (setRow_heap _ _ _ _ _ _ R9) Try.underlying41 rfl (by kernel_rfl)).trans rfl) rfl ⟨A8, n8, c8, rfl, ⟨?_, below_setRow (bel8.setCell (by show _ ≤ w1.heap.size; omega) _) (Nat.le_refl _) _⟩, HN8.out.symm⟩
  rw [HN8.out]
  exact own9
end Go.Proofs.Ytbfaonojemkhdaa
