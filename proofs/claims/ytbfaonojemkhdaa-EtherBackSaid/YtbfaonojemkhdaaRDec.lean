/-
  Which bytes are a frame: the reference's Decode, and both by one rule.
-/
import Derived.Test.YtbfaonojemkhdaaDec2
set_option linter.unusedVariables false
namespace Go.Proofs.Ytbfaonojemkhdaa
open Go.RowKit

theorem i64_or_nat (a b : Nat) (h : a ||| b < 9223372036854775808) (ha : a < 9223372036854775808) (hb : b < 9223372036854775808) : bits .or .i64 (a : Int) (b : Int) = ((a ||| b : Nat) : Int) := by
  show IntKind.i64.wrap ((BitVec.ofInt 64 (a : Int) ||| BitVec.ofInt 64 (b : Int)).toNat : Int) = _
  rw [BitVec.toNat_or, ofInt_u64 a (by omega), ofInt_u64 b (by omega)]
  exact IntWalk.i64_in _ (by omega)
theorem or_byte64 (v b : Int) (h0 : 0 ≤ v) (h1 : v < 1099511627776) (h2 : 0 ≤ b) (h3 : b < 256) : bits .or .i64 (v * 256) b = v * 256 + b := by
  obtain ⟨v, rfl⟩ : ∃ k : Nat, v = k := ⟨v.toNat, by omega⟩
  obtain ⟨b, rfl⟩ : ∃ k : Nat, b = k := ⟨b.toNat, by omega⟩
  have e := nat_join 8 (v * 256) b (by omega) (by omega)
  rw [show (v : Int) * 256 = ((v * 256 : Nat) : Int) by omega, i64_or_nat _ _ (by rw [e]; omega) (by omega) (by omega), e]
  omega
theorem take2 (l : List UInt8) (k : Nat) (h : k + 1 < l.length) : (beN ((l.drop k).take 2) : Int) = (l[k].toNat : Int) * 256 + (l[k + 1].toNat : Int) := by
  have e : (l.drop k).take 2 = [l[k], l[k + 1]] := by
    rw [List.drop_eq_getElem_cons (i := k) (by omega), List.drop_eq_getElem_cons (i := k + 1) h]; rfl
  rw [e]; simp [beN]
set_option maxHeartbeats 400000 in
theorem get2 (w : World) (A : Option Addr) (l : List UInt8) (n c : Nat) (k : Nat) (x : Int) (h : Bytes w A l) (hx : x = k) (hn : n = l.length) (hk : k + 1 < l.length) (hl : l.length ≤ 1099511627776) :
    Calls Try.prog 40 #[.slice A n c, .int .i64 x] w fun e w' => e = .returned (.int .i64 (beN ((l.drop k).take 2))) ∧ ∃ m, w' = w.drewN m := by
  subst hx hn
  obtain ⟨ad, rfl, _, hc1⟩ := h.at_ (show k < l.length by omega)
  obtain ⟨bd, hbd, _, hc2⟩ := h.at_ hk
  injection hbd with hbd
  subst hbd
  have k0 : (0 : Int) ≤ k := by omega
  have k1 : (k : Int) < l.length := by omega
  have k2 : (k : Int) + 1 < l.length := by omega
  have b1 := l[k].toNat_lt
  have b2 := (l[k + 1]'hk).toNat_lt
  have T := take2 l k hk
  generalize (beN ((l.drop k).take 2) : Int) = res at T ⊢
  generalize l[k].toNat = x1 at *
  generalize (l[k + 1]'hk).toNat = x2 at *
  have HT := Lib.hid T; clear T
  have hc3 : w.cell? ⟨ad.block, ad.off + (k + 1), none⟩ = some (.int .u8 x2) := by
    rw [← hc2, Addr.add, if_neg (by omega)]
  go_enter Try.func40, Try.ntmps40
  go_wp2
  have w1 : IntKind.i64.wrap ((k : Int) + 1) = k + 1 := IntWalk.i64_in _ (by omega)
  have w2 : (0 : Int) ≤ (k : Int) + 1 := by omega
  have w3 : ((k : Int) + 1).toNat = k + 1 := by omega
  have w4 : IntKind.i64.wrap (x1 : Int) = x1 := IntWalk.i64_in _ (by omega)
  have w5 : IntKind.i64.wrap (x2 : Int) = x2 := IntWalk.i64_in _ (by omega)
  have w6 : IntKind.i64.wrap ((x1 : Int) * 256) = x1 * 256 := IntWalk.i64_in _ (by omega)
  go_quiet (fail)
  clear w1 w2 w3 w4 w5 w6
  go_wp2
  go_ret
  refine ⟨ret_int ?_, _, rfl⟩
  rw [HT.out, or_byte64 _ _ (by omega) (by omega) (by omega) (by omega)]

-- both by one rule
def decX (l : List UInt8) : Int := if 1514 < l.length then 5 else if l.length < 14 then 2 else if kindOf l < 1536 then 3 else 0
def decTo (l : List UInt8) : Mac := if decX l = 0 then mac6 l 0 else zeroMac
def decFrom (l : List UInt8) : Mac := if decX l = 0 then mac6 l 6 else zeroMac
def decKind (l : List UInt8) : Int := if decX l = 0 then kindOf l else 0
def decData (l : List UInt8) : List UInt8 := if decX l = 0 then l.drop 14 else []
def DecRes (l : List UInt8) (w w' : World) (e : Ending) : Prop :=
  ∃ A' n' c', e = .returned (.tuple #[frV (decTo l) (decFrom l) (decKind l) (.slice A' n' c'), .int .i64 (decX l)]) ∧ IsRow w w' (decData l) (.slice A' n' c') ∧ Hid (n' = (decData l).length)
theorem DecRes.bad {l : List UInt8} {w w' : World} {e : Ending} (x : Int) (hx : decX l = x) (h0 : x ≠ 0) (he : e = .returned (.tuple #[frV zeroMac zeroMac 0 (.slice none 0 0), .int .i64 x])) (hb : Below w.heap.size w w') : DecRes l w w' e := by
  subst hx
  refine ⟨none, 0, 0, ?_, ?_, ?_⟩
  · rw [he, decTo, decFrom, decKind, if_neg h0, if_neg h0, if_neg h0]
  · rw [decData, if_neg h0]; exact ⟨World.ownsRow_nil _ _ _ _, hb⟩
  · rw [decData, if_neg h0]; rfl
theorem DecRes.ok {l : List UInt8} {w w' : World} {e : Ending} (hx : decX l = 0) (h : ∃ A' n' c', e = .returned (.tuple #[frV (mac6 l 0) (mac6 l 6) (kindOf l) (.slice A' n' c'), .int .i64 0]) ∧ IsRow w w' (l.drop 14) (.slice A' n' c') ∧ Hid (n' = (l.drop 14).length)) : DecRes l w w' e := by
  unfold DecRes decTo decFrom decKind decData
  rw [hx]
  exact h
theorem decode_any (A : Option Addr) (l : List UInt8) (n c : Nat) (w : World) (h : Bytes w A l) (hn : n = l.length) :
    Calls Try.prog 24 #[.slice A n c] w fun e w' => DecRes l w w' e := by
  subst hn
  by_cases h1 : 1514 < l.length
  · exact (decode_long A l _ c w h rfl h1).mono fun e w' h => DecRes.bad 5 (if_pos h1) (by decide) h.1 h.2
  · by_cases h2 : l.length < 14
    · exact (decode_bad A l c 2 w h (by omega) (.inl ⟨rfl, rd3_short l h2⟩)).mono fun e w' h => DecRes.bad 2 (by unfold decX; rw [if_neg h1, if_pos h2]) (by decide) h.1 h.2
    · have h3 := rd3_form l (by omega)
      by_cases h4 : kindOf l < 1536
      · exact (decode_bad A l c 3 w h (by omega) (.inr ⟨rfl, h3.1, by rw [h3.2]; exact h4⟩)).mono fun e w' h => DecRes.bad 3 (by unfold decX; rw [if_neg h1, if_neg h2, if_pos h4]) (by decide) h.1 h.2
      · exact (decode_ok A l c w h (by omega) (by omega) (by omega)).mono fun e w' h => DecRes.ok (by unfold decX; rw [if_neg h1, if_neg h2, if_neg h4]) h

set_option maxHeartbeats 400000 in
theorem rdecode_bad (A : Option Addr) (l : List UInt8) (c : Nat) (w : World) (h : Bytes w A l) (hl : l.length ≤ 1099511627776) (h0 : decX l ≠ 0) :
    Calls Try.prog 25 #[.slice A l.length c] w fun e w' => DecRes l w w' e := by
  have B2 : Blk ((w.alloc (.cells zeroF.toArray 41)).alloc (.cells zeroF.toArray 41)) w.heap.size 41 zeroF.toArray := (Blk.new w _ _).alloc _
  have B4 : Blk ((w.alloc (.cells zeroF.toArray 41)).alloc (.cells zeroF.toArray 41)) (w.heap.size + 1) 41 zeroF.toArray := blk_at _ _ _ (by simp)
  have bel : Below w.heap.size w ((w.alloc (.cells zeroF.toArray 41)).alloc (.cells zeroF.toArray 41)) := al (al (rf w) _) _
  have HB2 := Lib.hid B2; clear B2
  have HB4 := Lib.hid B4; clear B4
  have Hbel := Lib.hid bel; clear bel
  by_cases h1 : l.length < 14
  · have hx : Hid (decX l = 2) := by show decX l = 2; unfold decX; rw [if_neg (by omega), if_pos h1]
    have i1 : (l.length : Int) < 14 := by omega
    clear h0
    go_enter Try.func25, Try.ntmps25
    go_wp2_with (first | (refine wpList_load_row rfl 41 (.tmp 4) rfl _ rfl _ _ _ _ HB4.out Try.underlying41 rfl (by kernel_rfl) ?_) | (refine wpList_store_row rfl 41 (.tmp 2) (.tmp 8) rfl _ _ rfl rfl _ _ HB2.out (by kernel_rfl) rfl (by kernel_rfl) ?_))
    exact bodyPost_ret (v := .tuple #[.agg zeroF.toArray, .int .i64 2]) ((run_results_cell_tmp rfl _ _ _ _ _ _ _ rfl (setRow_heap _ _ _ _ _ _ HB2.out) Try.underlying41 rfl (by kernel_rfl)).trans rfl) rfl (DecRes.bad 2 hx.out (by decide) rfl (below_setRow Hbel.out (Nat.le_refl _) _))
  · by_cases h2 : 1514 < l.length
    · have hx : Hid (decX l = 5) := by show decX l = 5; unfold decX; rw [if_pos h2]
      have i1 : ¬ (l.length : Int) < 14 := by omega
      have i2 : (1514 : Int) < l.length := by omega
      clear h0
      go_enter Try.func25, Try.ntmps25
      go_wp2_with (first | (refine wpList_load_row rfl 41 (.tmp 4) rfl _ rfl _ _ _ _ HB4.out Try.underlying41 rfl (by kernel_rfl) ?_) | (refine wpList_store_row rfl 41 (.tmp 2) (.tmp 12) rfl _ _ rfl rfl _ _ HB2.out (by kernel_rfl) rfl (by kernel_rfl) ?_))
      exact bodyPost_ret (v := .tuple #[.agg zeroF.toArray, .int .i64 5]) ((run_results_cell_tmp rfl _ _ _ _ _ _ _ rfl (setRow_heap _ _ _ _ _ _ HB2.out) Try.underlying41 rfl (by kernel_rfl)).trans rfl) rfl (DecRes.bad 5 hx.out (by decide) rfl (below_setRow Hbel.out (Nat.le_refl _) _))
    · have h3 : kindOf l < 1536 := Decidable.byContradiction fun h3 => h0 (by unfold decX; rw [if_neg h2, if_neg h1, if_neg h3])
      have hx : Hid (decX l = 3) := by show decX l = 3; unfold decX; rw [if_neg h2, if_neg h1, if_pos h3]
      have i1 : ¬ (l.length : Int) < 14 := by omega
      have i2 : ¬ (1514 : Int) < l.length := by omega
      have h3' : (beN ((l.drop 12).take 2) : Int) < 1536 := h3
      clear h0 h3
      go_enter Try.func25, Try.ntmps25
      go_wp2_with fail
      refine (get2 _ A l _ c 12 12 (h.nx Hbel.out) rfl rfl (by omega) hl).mono ?_
      rintro e w1 ⟨rfl, m, rfl⟩
      go_wp2_with (first | (refine wpList_load_row rfl 41 (.tmp 4) rfl _ rfl _ _ _ _ HB4.out Try.underlying41 rfl (by kernel_rfl) ?_) | (refine wpList_store_row rfl 41 (.tmp 2) (.tmp 16) rfl _ _ rfl rfl _ _ HB2.out (by kernel_rfl) rfl (by kernel_rfl) ?_))
      exact bodyPost_ret (v := .tuple #[.agg zeroF.toArray, .int .i64 3]) ((run_results_cell_tmp rfl _ _ _ _ _ _ _ rfl (setRow_heap _ _ _ _ _ _ (HB2.out.drewN m)) Try.underlying41 rfl (by kernel_rfl)).trans rfl) rfl (DecRes.bad 3 hx.out (by decide) rfl (below_setRow (dn Hbel.out m) (Nat.le_refl _) _))

set_option maxRecDepth 100000 in
set_option maxHeartbeats 800000 in
theorem rdecode_ok (A : Option Addr) (l : List UInt8) (c : Nat) (w : World) (h : Bytes w A l) (hc : l.length ≤ c) (h1 : 14 ≤ l.length) (h2 : l.length ≤ 1514) (hk : 1536 ≤ kindOf l) :
    Calls Try.prog 25 #[.slice A l.length c] w fun e w' => ∃ A' n' c', e = .returned (.tuple #[frV (mac6 l 0) (mac6 l 6) (kindOf l) (.slice A' n' c'), .int .i64 0]) ∧ IsRow w w' (l.drop 14) (.slice A' n' c') ∧ Hid (n' = (l.drop 14).length) := by
  obtain ⟨ad, rfl, _, _⟩ := h.at_ (show 0 < l.length by omega)
  have hs1 : Bytes w (some ad) (mac6 l 0).l := by
    have := take_bytes (m := 6) h (by omega)
    rwa [show l.take 6 = (mac6 l 0).l from take6 l 0 (by omega)] at this
  have hs2 : Bytes w (some (ad.add 6)) (mac6 l 6).l := by
    have := cut_bytes (m := 6) h rfl (by omega) hc
    rw [cutA, if_neg (by omega)] at this
    have := take_bytes (m := 6) this (by rw [List.length_drop]; omega)
    rwa [take6 l 6 (by omega)] at this
  have hs3 : Bytes w (cutA (some ad) c 14) (l.drop 14) := cut_bytes h rfl (by omega) hc
  have B2 : Blk ((w.alloc (.cells zeroF.toArray 41)).alloc (.cells zeroF.toArray 41)) w.heap.size 41 zeroF.toArray := (Blk.new w _ _).alloc _
  have B4 : Blk ((w.alloc (.cells zeroF.toArray 41)).alloc (.cells zeroF.toArray 41)) (w.heap.size + 1) 41 zeroF.toArray := blk_at _ _ _ (by simp)
  have bel : Below w.heap.size w ((w.alloc (.cells zeroF.toArray 41)).alloc (.cells zeroF.toArray 41)) := al (al (rf w) _) _
  have HB2 := Lib.hid B2; clear B2
  have HB4 := Lib.hid B4; clear B4
  have Hbel := Lib.hid bel; clear bel
  have g2 := fun W (h : Bytes W (some ad) l) => get2 W (some ad) l l.length c 12 12 h rfl rfl (by omega) (by omega)
  change ∀ W, Bytes W (some ad) l → Calls _ _ _ _ (fun e w' => e = .returned (.int .i64 (kindOf l)) ∧ _) at g2
  generalize hm1 : mac6 l 0 = m1 at hs1 ⊢
  generalize hm2 : mac6 l 6 = m2 at hs2 ⊢
  generalize hkk : kindOf l = k at hk g2 ⊢
  clear hm1 hm2 hkk
  have G2 := Lib.hid g2; clear g2
  have i1 : ¬ (l.length : Int) < 14 := by omega
  have i2 : ¬ (1514 : Int) < l.length := by omega
  have i3 : (12 : Int) ≤ c := by omega
  have i4 : (6 : Int) ≤ c := by omega
  have i5 : ¬ c = 6 := by omega
  go_enter Try.func25, Try.ntmps25
  go_wp2_with fail
  refine (G2.out _ (h.nx Hbel.out)).mono ?_
  rintro e w1 ⟨rfl, m, rfl⟩
  go_wp2
  have B4a : Blk (((w.alloc (.cells zeroF.toArray 41)).alloc (.cells zeroF.toArray 41)).drewN m).drew (w.heap.size + 1) 41 zeroF.toArray := HB4.out
  go_region_held3 (fun w' => True) (exact trivial)
    (first | (refine step_cp rfl (.tmp 18) (.tmp 20) rfl (w.heap.size + 1) 0 6 6 rfl (some ad) m1.l 6 _ rfl rfl (Nat.le_refl 6) 41 zeroF B4a (hs1.nx (dn Hbel.out _).drew) (by show 0 + 6 ≤ 14; omega) ?_
              intro w3 hB3 g3))
  have B3r : Blk w3 w.heap.size 41 zeroF.toArray := (show Blk (((w.alloc (.cells zeroF.toArray 41)).alloc (.cells zeroF.toArray 41)).drewN m).drew _ _ _ from HB2.out).grown g3 (by intro e; injection e with e; omega)
  have bel3 : Below w.heap.size w w3 := (dn Hbel.out m).drew.trans (only_below g3 (by omega) (by simp; omega))
  have HB3 := Lib.hid hB3
  have HR3 := Lib.hid B3r
  have Hb3 := Lib.hid bel3
  clear hB3 B3r bel3 g3 B4a
  have B3a : Blk w3.drew (w.heap.size + 1) 41 (splice zeroF 0 (Lib.byteCells m1.l)).toArray := HB3.out
  go_wp2
  go_region_held3 (fun w' => True) (exact trivial)
    (first | (refine step_cp rfl (.tmp 23) (.tmp 25) rfl (w.heap.size + 1) 6 6 6 rfl _ m2.l 6 _ rfl rfl (Nat.le_refl 6) 41 (splice zeroF 0 (Lib.byteCells m1.l)) B3a (hs2.nx Hb3.out.drew) (by show 6 + 6 ≤ 14; omega) ?_
              intro w5 hB5 g5))
  have R5 : Blk w5 w.heap.size 41 zeroF.toArray := (show Blk w3.drew _ _ _ from HR3.out).grown g5 (by intro e; injection e with e; omega)
  have bel5 : Below w.heap.size w w5 := Hb3.out.drew.trans (only_below g5 (by omega) Hb3.out.size)
  have B5 : Blk w5 (w.heap.size + 1) 41 #[.int .u8 m1.a.toNat, .int .u8 m1.b.toNat, .int .u8 m1.c.toNat, .int .u8 m1.d.toNat, .int .u8 m1.e.toNat, .int .u8 m1.f.toNat, .int .u8 m2.a.toNat, .int .u8 m2.b.toNat, .int .u8 m2.c.toNat, .int .u8 m2.d.toNat, .int .u8 m2.e.toNat, .int .u8 m2.f.toNat, .int .i64 0, .slice none 0 0] := hB5
  clear hB5 g5 B3a
  go_wp2_with fail
  refine (G2.out _ (h.nx bel5)).mono ?_
  rintro e w6 ⟨rfl, m6, rfl⟩
  have R6 : Blk (w5.drewN m6) w.heap.size 41 zeroF.toArray := R5
  have B6 : Blk (w5.drewN m6) (w.heap.size + 1) 41 #[.int .u8 m1.a.toNat, .int .u8 m1.b.toNat, .int .u8 m1.c.toNat, .int .u8 m1.d.toNat, .int .u8 m1.e.toNat, .int .u8 m1.f.toNat, .int .u8 m2.a.toNat, .int .u8 m2.b.toNat, .int .u8 m2.c.toNat, .int .u8 m2.d.toNat, .int .u8 m2.e.toNat, .int .u8 m2.f.toNat, .int .i64 0, .slice none 0 0] := B5
  have bel6 : Below w.heap.size w (w5.drewN m6) := dn bel5 m6
  clear R5 B5 bel5
  generalize w5.drewN m6 = w6 at R6 B6 bel6 ⊢
  have c12 := B6.cell 12
  simp only [List.getElem?_toArray, List.getElem?_cons_succ, List.getElem?_cons_zero] at c12
  have f12 := B6.frozen 12
  have c13 := B6.cell 13
  simp only [List.getElem?_toArray, List.getElem?_cons_succ, List.getElem?_cons_zero] at c13
  have f13 := B6.frozen 13
  have z6 : w.heap.size + 1 < w6.heap.size := B6.lt
  have B7 := (B6.set_ 12 (.int .i64 k)).alloc (.cells #[] 5)
  have R7 := (R6.far (p := ⟨w.heap.size + 1, 12, none⟩) (by show w.heap.size ≠ w.heap.size + 1; omega) (.int .i64 k)).alloc (.cells #[] 5)
  have bel7 : Below w.heap.size w ((w6.setCell ⟨w.heap.size + 1, 12, none⟩ (.int .i64 k)).alloc (.cells #[] 5)) := al (bel6.setCell (by show _ ≤ w.heap.size + 1; omega) _) _
  have src : Reads ((w6.setCell ⟨w.heap.size + 1, 12, none⟩ (.int .i64 k)).alloc (.cells #[] 5)) ((w6.setCell ⟨w.heap.size + 1, 12, none⟩ (.int .i64 k)).alloc (.cells #[] 5)).heap.size 1 (cutA (some ad) c 14) (l.length - 14) (Lib.byteCells (l.drop 14)) := by
    have := hs3.nx bel7
    unfold Bytes at this
    rwa [List.length_drop] at this
  have H7 := Lib.hid (And.intro B7 (And.intro R7 (And.intro bel7 src)))
  clear B7 R7 bel7 src R6 B6 bel6
  unfold cutA at H7
  have hle : l.length - 14 ≤ 1500 := by omega
  by_cases hc14 : c = 14
  all_goals
    go_wp2_with (first | (at_builtin; refine app_any stB rfl (.tmp 30) (.tmp 32) rfl w6.heap.size _ 0 [] rfl (own_lit _ #[] 0 ?b1 (by simp) (by decide) rfl) _ _ _ (Lib.byteCells (l.drop 14)) rfl (by have h := H7.out.2.2.2; simpa [hc14, Addr.add] using h) (one_u8 _) (by omega) (by omega) ?b2 ?_; (case b1 => simp); (case b2 => simp); intro v8 w8 own8 gr8 at8 bel8; obtain ⟨A8, c8, rfl⟩ := own_slice own8; have B8 := H7.out.1.below bel8 (by omega); have d13 : w8.cell? ⟨w.heap.size + 1, 13, none⟩ = some (.slice none 0 0) := B8.cell 13; have e13 := B8.frozen 13; have R8 := H7.out.2.1.below bel8 (by omega); have b8 : Below w.heap.size w w8 := H7.out.2.2.1.trans (bel8.mono (by omega)); rw [Nat.zero_add] at own8; have B9 := Lib.hid (B8.set_ 13 (.slice A8 (l.length - 14) c8)); have R9 := Lib.hid (R8.far (p := ⟨w.heap.size + 1, 13, none⟩) (by show w.heap.size ≠ w.heap.size + 1; omega) (.slice A8 (l.length - 14) c8)); clear R8 B8 gr8 at8) | (refine wpList_load_row rfl 41 (.tmp 4) rfl _ rfl _ _ _ _ B9.out Try.underlying41 rfl (by kernel_rfl) ?_) | (refine wpList_store_row rfl 41 (.tmp 2) (.tmp 35) rfl _ _ rfl rfl _ _ R9.out (by kernel_rfl) rfl (by kernel_rfl) ?_))
  all_goals
    have zz := b8.size
    have own9 := own_base (b' := w.heap.size) (own_setRow (g := w.heap.size) (cs := (#[Value.int .u8 m1.a.toNat, .int .u8 m1.b.toNat, .int .u8 m1.c.toNat, .int .u8 m1.d.toNat, .int .u8 m1.e.toNat, .int .u8 m1.f.toNat, .int .u8 m2.a.toNat, .int .u8 m2.b.toNat, .int .u8 m2.c.toNat, .int .u8 m2.d.toNat, .int .u8 m2.e.toNat, .int .u8 m2.f.toNat, .int .i64 k, .slice A8 (l.length - 14) c8])) (ownsRow_setCell_below own8 (a := ⟨w.heap.size + 1, 13, none⟩) z6 (.slice A8 (l.length - 14) c8)) (by omega)) (by omega)
    refine bodyPost_ret (v := .tuple #[frV m1 m2 k (.slice A8 (l.length - 14) c8), .int .i64 0]) ((run_results_cell_tmp rfl _ _ _ _ _ _ _ rfl (setRow_heap _ _ _ _ _ _ R9.out) Try.underlying41 rfl (by kernel_rfl)).trans rfl) rfl ⟨A8, _, c8, rfl, ⟨?_, below_setRow (b8.setCell (by show _ ≤ w.heap.size + 1; omega) _) (Nat.le_refl _) _⟩, (by rw [List.length_drop]; rfl)⟩
    rw [List.length_drop]
    exact own9
theorem rdecode_any (A : Option Addr) (l : List UInt8) (n c : Nat) (w : World) (h : Bytes w A l) (hn : n = l.length) (hc : l.length ≤ c) (hl : l.length ≤ 1099511627776) :
    Calls Try.prog 25 #[.slice A n c] w fun e w' => DecRes l w w' e := by
  subst hn
  by_cases hx : decX l = 0
  · have h4 := hx
    unfold decX at h4
    have h1 : ¬ 1514 < l.length := fun h => by rw [if_pos h] at h4; cases h4
    rw [if_neg h1] at h4
    have h2 : ¬ l.length < 14 := fun h => by rw [if_pos h] at h4; cases h4
    rw [if_neg h2] at h4
    have h3 : ¬ kindOf l < 1536 := fun h => by rw [if_pos h] at h4; cases h4
    exact (rdecode_ok A l c w h hc (by omega) (by omega) (by omega)).mono fun e w' h => DecRes.ok hx h
  · exact rdecode_bad A l c w h hl hx
end Go.Proofs.Ytbfaonojemkhdaa
