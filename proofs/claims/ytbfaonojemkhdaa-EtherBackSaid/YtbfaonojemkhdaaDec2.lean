/-
  Which bytes are a frame: what the program's Decode refuses.
-/
import Derived.Test.YtbfaonojemkhdaaDec
import Derived.Test.YtbfaonojemkhdaaMacP
set_option linter.unusedVariables false
namespace Go.Proofs.Ytbfaonojemkhdaa
open Go.RowKit

theorem rd_err (l : List UInt8) (e m : Int) (he : e = 0 ∨ e = 2) : ((rdN l e m).2.2 = 0 ∨ (rdN l e m).2.2 = 2) := by
  unfold rdN; split <;> simp
theorem rd_len (l : List UInt8) (e : Int) (m : Nat) : (rdN l e m).1.length ≤ m := by
  unfold rdN; split <;> simp [List.length_take]; omega
theorem splice_len (cur : List Value) (o : Nat) (xs : List Value) (h : o + xs.length ≤ cur.length) : (splice cur o xs).length = cur.length := by
  simp [splice]; omega
-- the three reads of a row
def rd3 (l : List UInt8) : List UInt8 × List UInt8 × Int :=
  rdN (rdN (rdN l 0 (6 : Nat)).2.1 (rdN l 0 (6 : Nat)).2.2 (6 : Nat)).2.1 (rdN (rdN l 0 (6 : Nat)).2.1 (rdN l 0 (6 : Nat)).2.2 (6 : Nat)).2.2 2
theorem rd_bad (l : List UInt8) (e m : Int) (h : e = 2 ∨ m < 0 ∨ (l.length : Int) < m) : rdN l e m = ([], [], 2) := if_pos h
theorem rd3_short (l : List UInt8) (h : l.length < 14) : (rd3 l).2.2 = 2 := by
  unfold rd3
  by_cases h1 : l.length < 6
  · rw [rd_bad l 0 (6 : Nat) (.inr (.inr (by omega))), rd_bad [] 2 (6 : Nat) (.inl rfl), rd_bad [] 2 2 (.inl rfl)]
  · rw [show rdN l 0 (6 : Nat) = (l.take 6, l.drop 6, 0) from rd_ok l 6 (by omega)]
    by_cases h2 : l.length < 12
    · rw [rd_bad (l.drop 6) 0 (6 : Nat) (.inr (.inr (by rw [List.length_drop]; omega))), rd_bad [] 2 2 (.inl rfl)]
    · rw [show rdN (l.drop 6) 0 (6 : Nat) = ((l.drop 6).take 6, (l.drop 6).drop 6, 0) from rd_ok _ 6 (by rw [List.length_drop]; omega), rd_bad ((l.drop 6).drop 6) 0 2 (.inr (.inr (by rw [List.length_drop, List.length_drop]; omega)))]
theorem rd3_form (l : List UInt8) (h : 14 ≤ l.length) : (rd3 l).2.2 = 0 ∧ (beN (rd3 l).1 : Int) = kindOf l := by
  have e1 : rdN l 0 (6 : Nat) = (l.take 6, l.drop 6, 0) := rd_ok l 6 (by omega)
  have e2 : rdN (l.drop 6) 0 (6 : Nat) = ((l.drop 6).take 6, (l.drop 6).drop 6, 0) := rd_ok (l.drop 6) 6 (by rw [List.length_drop]; omega)
  have e3 : rdN ((l.drop 6).drop 6) 0 (2 : Nat) = (((l.drop 6).drop 6).take 2, ((l.drop 6).drop 6).drop 2, 0) := rd_ok _ 2 (by rw [List.length_drop, List.length_drop]; omega)
  unfold rd3
  rw [e1, e2]
  show (rdN ((l.drop 6).drop 6) 0 ((2 : Nat) : Int)).2.2 = 0 ∧ _
  rw [show (2 : Int) = ((2 : Nat) : Int) from rfl, e3]
  refine ⟨rfl, ?_⟩
  show ((beN (((l.drop 6).drop 6).take 2) : Nat) : Int) = _
  rw [List.drop_drop]; rfl
theorem zeroFV : Value.agg zeroF.toArray = frV zeroMac zeroMac 0 (.slice none 0 0) := rfl
set_option maxHeartbeats 400000 in
theorem decode_long (A : Option Addr) (l : List UInt8) (n c : Nat) (w : World) (h : Bytes w A l) (hn : n = l.length) (h1 : 1514 < l.length) :
    Calls Try.prog 24 #[.slice A n c] w fun e w' => e = .returned (.tuple #[frV zeroMac zeroMac 0 (.slice none 0 0), .int .i64 5]) ∧ Below w.heap.size w w' := by
  subst hn
  have i1 : (1514 : Int) < l.length := by omega
  rw [← zeroFV]
  have BR := Blk.new w 41 zeroF.toArray
  go_enter Try.func24, Try.ntmps24
  go_wp2_with (refine wpList_store_row rfl 41 (.tmp 2) (.tmp 9) rfl _ zeroF.toArray rfl rfl _ _ BR (by kernel_rfl) rfl (by kernel_rfl) ?_)
  exact bodyPost_ret (v := .tuple #[.agg zeroF.toArray, .int .i64 5]) ((run_results_cell_tmp rfl _ _ _ _ _ _ _ rfl (setRow_heap _ _ _ _ _ _ BR) Try.underlying41 rfl (by kernel_rfl)).trans rfl) rfl ⟨rfl, below_setRow (al (rf w) _) (Nat.le_refl _) _⟩
set_option maxRecDepth 100000 in
set_option maxHeartbeats 800000 in
theorem decode_bad (A : Option Addr) (l : List UInt8) (c : Nat) (x : Int) (w : World) (h : Bytes w A l) (h2 : l.length ≤ 1514) (hx : (x = 2 ∧ (rd3 l).2.2 = 2) ∨ (x = 3 ∧ (rd3 l).2.2 = 0 ∧ (beN (rd3 l).1 : Int) < 1536)) :
    Calls Try.prog 24 #[.slice A l.length c] w fun e w' => e = .returned (.tuple #[frV zeroMac zeroMac 0 (.slice none 0 0), .int .i64 x]) ∧ Below w.heap.size w w' := by
  rw [← zeroFV]
  have hx' : (x = 2 ∧ (rdN (rdN (rdN l 0 (6 : Nat)).2.1 (rdN l 0 (6 : Nat)).2.2 (6 : Nat)).2.1 (rdN (rdN l 0 (6 : Nat)).2.1 (rdN l 0 (6 : Nat)).2.2 (6 : Nat)).2.2 2).2.2 = 2) ∨ (x = 3 ∧ (rdN (rdN (rdN l 0 (6 : Nat)).2.1 (rdN l 0 (6 : Nat)).2.2 (6 : Nat)).2.1 (rdN (rdN l 0 (6 : Nat)).2.1 (rdN l 0 (6 : Nat)).2.2 (6 : Nat)).2.2 2).2.2 = 0 ∧ (beN (rdN (rdN (rdN l 0 (6 : Nat)).2.1 (rdN l 0 (6 : Nat)).2.2 (6 : Nat)).2.1 (rdN (rdN l 0 (6 : Nat)).2.1 (rdN l 0 (6 : Nat)).2.2 (6 : Nat)).2.2 2).1 : Int) < 1536) := hx
  clear hx
  have HE1 := rd_err l 0 (6 : Nat) (.inl rfl)
  have HL1 := rd_len l 0 6
  generalize hq1 : rdN l 0 (6 : Nat) = q1 at HE1 HL1 hx'
  obtain ⟨p1, l1, e1⟩ := q1
  simp only at HE1 HL1 hx'
  have HE2 := rd_err l1 e1 (6 : Nat) HE1
  have HL2 := rd_len l1 e1 6
  generalize hq2 : rdN l1 e1 (6 : Nat) = q2 at HE2 HL2 hx'
  obtain ⟨p2, l2, e2⟩ := q2
  simp only at HE2 HL2 hx'
  generalize hq3 : rdN l2 e2 2 = q3 at hx'
  obtain ⟨p3, l3, e3⟩ := q3
  simp only at hx'
  have HQ1 := Lib.hid hq1; clear hq1
  have HQ2 := Lib.hid hq2; clear hq2
  have HQ3 := Lib.hid hq3; clear hq3
  have HX := Lib.hid hx'; clear hx'
  have He1 := Lib.hid HE1; clear HE1
  have He2 := Lib.hid HE2; clear HE2
  have i1 : ¬ (1514 : Int) < l.length := by omega
  go_enter Try.func24, Try.ntmps24
  go_wp2_with fail
  refine (newReader _ A l _ c (h.al _) rfl (by omega)).mono ?_
  rintro e w1 ⟨b, rfl, hb, hR, hb1⟩
  have BR : Blk w1 w.heap.size 41 zeroF.toArray := (Blk.new w _ _).nx hb1
  go_wp2_with fail
  have BF : ∀ (W : World), Blk (W.alloc (.cells zeroF.toArray 41)) W.heap.size 41 zeroF.toArray := fun W => Blk.new W _ _
  have hR1 : IsR (w1.alloc (.cells zeroF.toArray 41)).drew b l 0 := hR.nx ((rf w1).alloc (Nat.le_refl _) _).drew
  go_region_held3 (fun w' => True) (exact trivial)
    (first
    | (go_at_call 36; refine (rraw _ b l 0 6 hR1 (.inl rfl)).mono ?_; rintro e w2 ⟨v2, rfl, own2, hR2, g2⟩; rw [show rdN l 0 6 = (p1, l1, e1) from HQ1.out] at own2 hR2; obtain ⟨A2, c2, rfl⟩ := own_slice own2)
    | (refine step_cp rfl (.tmp 13) (.tmp 15) rfl w1.heap.size 0 6 6 rfl A2 p1 _ c2 rfl rfl (by show p1.length ≤ 6; omega) 41 zeroF ?k1 (own_bytes own2).1 (by show 0 + p1.length ≤ 14; omega) ?_
       case k1 => exact (show Blk (w1.alloc (.cells zeroF.toArray 41)).drew _ _ _ from BF w1).grown g2 (by have := hR.lt; intro e; injection e with e; omega)
       intro w3 hB3 g3))
  have hlt := hR.lt
  have B2 : Blk w2 w1.heap.size 41 zeroF.toArray := (show Blk (w1.alloc (.cells zeroF.toArray 41)).drew _ _ _ from BF w1).grown g2 (by intro e; injection e with e; omega)
  have hR3 := hR2.only' g3 B2 (by decide) (by decide) (by decide)
  have R3 : Blk w3 w.heap.size 41 zeroF.toArray := ((show Blk (w1.alloc (.cells zeroF.toArray 41)).drew _ _ _ from BR.alloc _).grown g2 (by intro e; injection e with e; have := hb; simp at this; omega)).grown g3 (by intro e; injection e with e; have := BR.lt; omega)
  have bel3 : Below w.heap.size w w3 := by
    have hbw : w.heap.size ≤ b := by have := hb; simp at this; omega
    have z1 := hb1.size
    simp at z1
    have b1 : Below w.heap.size w w1 := nx (al (rf w) _) hb1
    have b2 : Below w.heap.size w w2 := (b1.alloc b1.size _).drew.trans (only_below g2 hbw (by simp; omega))
    exact b2.trans (only_below g3 (by omega) b2.size)
  obtain ⟨f1, hf1, F1⟩ : ∃ f1 : List Value, f1.length = 14 ∧ Blk w3 w1.heap.size 41 f1.toArray := ⟨_, splice_len zeroF 0 _ (by rw [byteCells_len]; show 0 + p1.length ≤ 14; omega), hB3⟩
  have HB3 := Lib.hid F1
  have HF1 := Lib.hid hf1
  clear hB3 g2 g3 own2 hR1 hR2 B2 BF hb1 BR F1 hf1
  have hR3d : IsR w3.drew b l1 e1 := hR3
  go_wp2
  go_region_held3 (fun w' => True) (exact trivial)
    (first
    | (go_at_call 36; refine (rraw _ b l1 e1 6 hR3d He1.out).mono ?_; rintro e w4 ⟨v4, rfl, own4, hR4, g4⟩; rw [show rdN l1 e1 6 = (p2, l2, e2) from HQ2.out] at own4 hR4; obtain ⟨A4, c4, rfl⟩ := own_slice own4)
    | (refine step_cp rfl (.tmp 18) (.tmp 20) rfl w1.heap.size 6 6 6 rfl A4 p2 _ c4 rfl rfl (by show p2.length ≤ 6; omega) 41 f1 ?k2 (own_bytes own4).1 (by rw [HF1.out]; omega) ?_
       case k2 => exact (show Blk w3.drew _ _ _ from HB3.out).grown g4 (by have := hR.lt; intro e; injection e with e; omega)
       intro w5 hB5 g5))
  have hbw : w.heap.size ≤ b := by have := hb; simp at this; omega
  have bel5 : Below w.heap.size w w5 := (bel3.drew.trans (only_below g4 hbw bel3.size)).trans (only_below g5 (by omega) (Nat.le_trans bel3.size g4.size))
  have B4 : Blk w4 w1.heap.size 41 f1.toArray := (show Blk w3.drew _ _ _ from HB3.out).grown g4 (by intro e; injection e with e; omega)
  have hR5 : IsR w5 b l2 e2 := hR4.only' g5 B4 (by decide) (by decide) (by decide)
  have hRb : Hid (w.heap.size ≠ b) := by have h := hb; simp at h; show w.heap.size ≠ b; omega
  have hRf : Hid (w.heap.size ≠ w1.heap.size) := by show w.heap.size ≠ w1.heap.size; omega
  have R5 : Blk w5 w.heap.size 41 zeroF.toArray := ((show Blk w3.drew _ _ _ from R3).grown g4 (by intro e; injection e with e; exact hRb.out e)).grown g5 (by intro e; injection e with e; exact hRf.out e)
  obtain ⟨f2, hf2, F2⟩ : ∃ f2 : List Value, f2.length = 14 ∧ Blk w5 w1.heap.size 41 f2.toArray := ⟨_, (splice_len f1 6 _ (by rw [byteCells_len, HF1.out]; omega)).trans HF1.out, hB5⟩
  have HF2 := Lib.hid hf2
  have HB5 := Lib.hid F2
  clear hB5 B4 HB3 R3 g4 g5 own4 hR4 hR3 hR3d bel3 F2 hf2 HF1
  go_wp2_with fail
  refine (rtwo_rd _ b l2 e2 hR5 He2.out).mono ?_
  rintro e w6 ⟨rfl, hR6, g6⟩
  have hq3 := HQ3.out
  rw [hq3] at hR6 ⊢
  clear hq3
  have B6 := HB5.out.grown g6 (by intro e; injection e with e; omega)
  have R6 := R5.grown g6 (by intro e; injection e with e; exact hRb.out e)
  have bel6 : Below w.heap.size w w6 := bel5.trans (only_below g6 hbw bel5.size)
  have hR6' : IsR w6 b l3 e3 := hR6
  obtain ⟨v12, hv12⟩ : ∃ v, f2[12]? = some v := ⟨_, List.getElem?_eq_getElem (show 12 < f2.length by rw [HF2.out]; omega)⟩
  have c12 := B6.cell 12
  rw [List.getElem?_toArray, hv12] at c12
  have f12 := B6.frozen 12
  generalize hkk : (beN (p3, l3, e3).1 : Int) = k
  have HKK := Lib.hid (show (beN p3 : Int) = k from hkk); clear hkk
  have B7 := B6.set_ 12 (.int .i64 k)
  have R7 := R6.far (p := ⟨w1.heap.size, 12, none⟩) hRf.out (.int .i64 k)
  have hR7 : IsR (w6.setCell ⟨w1.heap.size, 12, none⟩ (.int .i64 k)) b l3 e3 := hR6'.only' (only_setCell (p := ⟨w1.heap.size, 12, none⟩) (World.grownBy.refl w6 _) (.inl rfl) _) B6 (by decide) (by decide) (by decide)
  have bel7 : Below w.heap.size w (w6.setCell ⟨w1.heap.size, 12, none⟩ (.int .i64 k)) := bel6.setCell (by show _ ≤ w1.heap.size; omega) _
  have D7 := B7.cell 12
  rw [Array.getElem?_setIfInBounds_self_of_lt (by simp [HF2.out])] at D7
  have HR7 := Lib.hid (And.intro R7 (And.intro hR7 (And.intro bel7 D7)))
  clear R5 R6 hR6 hR6' bel5 bel6 hR5 g6 R7 hR7 bel7 B7 B6 hv12 D7
  go_wp2_with fail
  obtain ⟨R7, hR7, bel7, D7⟩ := HR7.out
  generalize w6.setCell ⟨w1.heap.size, 12, none⟩ (.int .i64 k) = w7 at R7 hR7 bel7 D7 ⊢
  clear c12 f12 HR7
  have bel7' := Lib.hid bel7; clear bel7
  rcases HX.out with ⟨rfl, he3⟩ | ⟨rfl, he3, hk3⟩
  · subst he3
    refine (rerr _ b _ 2 hR7).mono ?_
    rintro e w8 ⟨rfl, rfl⟩
    go_wp2_with fail
    refine (rerr _ b _ 2 hR7).mono ?_
    rintro e w8 ⟨rfl, rfl⟩
    go_wp2_with (refine wpList_store_row rfl 41 (.tmp 2) (.tmp 29) rfl _ zeroF.toArray rfl rfl _ _ R7 (by kernel_rfl) rfl (by kernel_rfl) ?_)
    exact bodyPost_ret (v := .tuple #[.agg zeroF.toArray, .int .i64 2]) ((run_results_cell_tmp rfl _ _ _ _ _ _ _ rfl (setRow_heap _ _ _ _ _ _ R7) Try.underlying41 rfl (by kernel_rfl)).trans rfl) rfl ⟨rfl, below_setRow bel7'.out (Nat.le_refl _) _⟩
  · subst he3
    have hk4 : k < 1536 := by rw [← HKK.out]; exact hk3
    clear hk3
    refine (rerr _ b _ 0 hR7).mono ?_
    rintro e w8 ⟨rfl, rfl⟩
    go_wp2_with (refine wpList_store_row rfl 41 (.tmp 2) (.tmp 36) rfl _ zeroF.toArray rfl rfl _ _ R7 (by kernel_rfl) rfl (by kernel_rfl) ?_)
    exact bodyPost_ret (v := .tuple #[.agg zeroF.toArray, .int .i64 3]) ((run_results_cell_tmp rfl _ _ _ _ _ _ _ rfl (setRow_heap _ _ _ _ _ _ R7) Try.underlying41 rfl (by kernel_rfl)).trans rfl) rfl ⟨rfl, below_setRow bel7'.out (Nat.le_refl _) _⟩
end Go.Proofs.Ytbfaonojemkhdaa
