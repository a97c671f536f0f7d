/-
  Which bytes are a datagram: the program's Decode.
-/
import Derived.Test.YtbhplleaokncpaaUdD
set_option linter.unusedVariables false
namespace Go.Proofs.Ytbhplleaokncpaa
open Go.RowKit

theorem rd_err (l : List UInt8) (e m : Int) (he : e = 0 ∨ e = 2) : ((rdN l e m).2.2 = 0 ∨ (rdN l e m).2.2 = 2) := by
  unfold rdN; split <;> simp
-- four twos
def rdU (l : List UInt8) (e : Int) : List UInt8 × List UInt8 × Int := rdN l e (2 : Nat)
theorem rdU_ok (l : List UInt8) (h : 2 ≤ l.length) : rdU l 0 = (l.take 2, l.drop 2, 0) := rd_ok l 2 h
theorem rdU_bad (l : List UInt8) (e : Int) (h : e = 2 ∨ l.length < 2) : rdU l e = ([], [], 2) := rd_bad l e (2 : Nat) (by rcases h with h | h; exact .inl h; exact .inr (.inr (by omega)))
def rd4 (l : List UInt8) : List UInt8 × List UInt8 × Int := rdU (rdU (rdU (rdU l 0).2.1 (rdU l 0).2.2).2.1 (rdU (rdU l 0).2.1 (rdU l 0).2.2).2.2).2.1 (rdU (rdU (rdU l 0).2.1 (rdU l 0).2.2).2.1 (rdU (rdU l 0).2.1 (rdU l 0).2.2).2.2).2.2
theorem rd4_short (l : List UInt8) (h : l.length < 8) : (rd4 l).2.2 = 2 := by
  unfold rd4
  by_cases h1 : l.length < 2
  · simp [rdU_bad l 0 (.inr h1), rdU_bad [] 2 (.inl rfl)]
  rw [rdU_ok l (by omega)]
  by_cases h2 : l.length < 4
  · simp [rdU_bad (l.drop 2) 0 (.inr (by rw [List.length_drop]; omega)), rdU_bad [] 2 (.inl rfl)]
  rw [rdU_ok (l.drop 2) (by rw [List.length_drop]; omega)]
  by_cases h3 : l.length < 6
  · simp only
    rw [rdU_bad ((l.drop 2).drop 2) 0 (.inr (by rw [List.length_drop, List.length_drop]; omega))]
    simp only [rdU_bad [] 2 (.inl rfl)]
  rw [rdU_ok ((l.drop 2).drop 2) (by rw [List.length_drop, List.length_drop]; omega)]
  simp only
  rw [rdU_bad _ 0 (.inr (by rw [List.length_drop, List.length_drop, List.length_drop]; omega))]
structure Qs (l : List UInt8) (p1 p2 p3 p4 : Nat) (l1 l2 l3 l4 : List UInt8) (e1 e2 e3 e4 : Int) : Prop where
  h1 : (beN (rdN l 0 2).1 = p1 ∧ (rdN l 0 2).2.1 = l1 ∧ (rdN l 0 2).2.2 = e1) ∧ (e1 = 0 ∨ e1 = 2)
  h2 : (beN (rdN l1 e1 2).1 = p2 ∧ (rdN l1 e1 2).2.1 = l2 ∧ (rdN l1 e1 2).2.2 = e2) ∧ (e2 = 0 ∨ e2 = 2)
  h3 : (beN (rdN l2 e2 2).1 = p3 ∧ (rdN l2 e2 2).2.1 = l3 ∧ (rdN l2 e2 2).2.2 = e3) ∧ (e3 = 0 ∨ e3 = 2)
  h4 : (beN (rdN l3 e3 2).1 = p4 ∧ (rdN l3 e3 2).2.1 = l4 ∧ (rdN l3 e3 2).2.2 = e4) ∧ (e4 = 0 ∨ e4 = 2)
theorem qs_short (l : List UInt8) (h : l.length < 8) : ∃ p1 p2 p3 p4 l1 l2 l3 l4 e1 e2 e3, Qs l p1 p2 p3 p4 l1 l2 l3 l4 e1 e2 e3 2 := by
  have h4 := rd4_short l h
  unfold rd4 at h4
  have c1 := rd_err l 0 2 (.inl rfl)
  have c2 := rd_err (rdN l 0 2).2.1 (rdN l 0 2).2.2 2 c1
  have c3 := rd_err (rdN (rdN l 0 2).2.1 (rdN l 0 2).2.2 2).2.1 (rdN (rdN l 0 2).2.1 (rdN l 0 2).2.2 2).2.2 2 c2
  exact ⟨_, _, _, _, _, _, _, _, _, _, _, ⟨⟨rfl, rfl, rfl⟩, c1⟩, ⟨⟨rfl, rfl, rfl⟩, c2⟩, ⟨⟨rfl, rfl, rfl⟩, c3⟩, ⟨⟨rfl, rfl, h4⟩, .inr rfl⟩⟩
theorem qs_ok (l : List UInt8) (h : 8 ≤ l.length) : Qs l (at2 l 0) (at2 l 2) (at2 l 4) (at2 l 6) (l.drop 2) (l.drop 4) (l.drop 6) (l.drop 8) 0 0 0 0 := by
  have k : ∀ m : Nat, m + 2 ≤ l.length → rdN (l.drop m) 0 2 = ((l.drop m).take 2, l.drop (m + 2), 0) := fun m hm => by
    have := rd_ok (l.drop m) 2 (by rw [List.length_drop]; omega)
    rw [List.drop_drop] at this
    exact this
  have k0 := k 0 (by omega)
  simp only [List.drop_zero, Nat.zero_add] at k0
  refine ⟨?_, ?_, ?_, ?_⟩
  · rw [k0]; exact ⟨⟨rfl, rfl, rfl⟩, .inl rfl⟩
  · rw [k 2 (by omega)]; exact ⟨⟨rfl, rfl, rfl⟩, .inl rfl⟩
  · rw [k 4 (by omega)]; exact ⟨⟨rfl, rfl, rfl⟩, .inl rfl⟩
  · rw [k 6 (by omega)]; exact ⟨⟨rfl, rfl, rfl⟩, .inl rfl⟩
theorem Qs.p3_le {l : List UInt8} {p1 p2 p3 p4 : Nat} {l1 l2 l3 l4 : List UInt8} {e1 e2 e3 e4 : Int} (Q : Qs l p1 p2 p3 p4 l1 l2 l3 l4 e1 e2 e3 e4) : p3 ≤ 65535 := by
  have h := beN_lt (rdN l2 e2 2).1
  have h2 : (rdN l2 e2 2).1.length ≤ 2 := by unfold rdN; split <;> simp [List.length_take]; omega
  have h3 : 256 ^ (rdN l2 e2 2).1.length ≤ 256 ^ 2 := Nat.pow_le_pow_right (by omega) h2
  rw [Q.h3.1.1] at h
  omega
theorem two_rd (w : World) (b : Nat) (l l1 : List UInt8) (e e1 : Int) (p : Nat) (h : IsR w b l e) (he : Hid (e = 0 ∨ e = 2)) (hq : Hid (beN (rdN l e 2).1 = p ∧ (rdN l e 2).2.1 = l1 ∧ (rdN l e 2).2.2 = e1)) :
    Calls Try.prog 51 #[.pointer (some ⟨b, 0, none⟩)] w fun x w' => x = .returned (.int .i64 p) ∧ IsR w' b l1 e1 ∧ w.grownBy w' (some b) := by
  have h0 := rtwo_rd w b l e h he.out
  rw [hq.out.1, hq.out.2.1, hq.out.2.2] at h0
  exact h0
-- the reader's and the datagram's blocks among a world's
structure Ud (w W : World) (b g : Nat) (cs : List Value) (l : List UInt8) (e : Int) : Prop where
  r : IsR W b l e
  z : Blk W w.heap.size 37 zDc.toArray
  d : Blk W g 37 cs.toArray
  bel : Below w.heap.size w W
  hb : w.heap.size < b
  hg : w.heap.size < g
  ne : g ≠ b
theorem Ud.to_ {w W W' : World} {b g : Nat} {cs : List Value} {l l' : List UInt8} {e e' : Int} (h : Ud w W b g cs l e) (r : IsR W' b l' e') (k : W.grownBy W' (some b)) : Ud w W' b g cs l' e' :=
  ⟨r, h.z.only k (by have := h.hb; omega), h.d.only k h.ne, h.bel.trans (below_only k (by have := h.hb; omega) h.bel.size), h.hb, h.hg, h.ne⟩
theorem Ud.nx {w W W' : World} {b g : Nat} {cs : List Value} {l : List UInt8} {e : Int} (h : Ud w W b g cs l e) (k : Below W.heap.size W W') : Ud w W' b g cs l e :=
  ⟨h.r.nx k, h.z.nx k, h.d.nx k, Go.Proofs.Ytbhplleaokncpaa.nx h.bel k, h.hb, h.hg, h.ne⟩
theorem IsR.lt {w : World} {b : Nat} {l : List UInt8} {err : Int} (h : IsR w b l err) : b < w.heap.size := by
  obtain ⟨A, n, c, x, h1, _⟩ := h
  exact h1.lt
theorem rraw_ok (w : World) (b : Nat) (l : List UInt8) (m : Nat) (x : Int) (h : IsR w b l 0) (hm : m ≤ l.length) (hx : x = m) :
    Calls Try.prog 53 #[.pointer (some ⟨b, 0, none⟩), .int .i64 x] w fun e w' => ∃ A' c', e = .returned (.slice A' (l.take m).length c') ∧ w'.ownsRow w.heap.size 5 1 (.slice A' (l.take m).length c') (l.take m).length (Lib.byteCells (l.take m)) ∧ IsR w' b (l.drop m) 0 ∧ w.grownBy w' (some b) := by
  subst hx
  refine (rraw w b l 0 m h (.inl rfl)).mono ?_
  rintro e w' ⟨v, rfl, own, hR, g⟩
  rw [rd_ok l m hm] at own hR
  obtain ⟨A', c', rfl⟩ := own_slice own
  exact ⟨A', c', rfl, own, hR, g⟩
def UdP (w w' : World) (e : Ending) (f g h i : Int) (D : List UInt8) (x : Int) : Prop :=
  ∃ A' n' c', e = .returned (.tuple #[dgV f g h i (.slice A' n' c'), .int .i64 x]) ∧ IsRow w w' D (.slice A' n' c') ∧ Hid (n' = D.length)
theorem own_setRow {w : World} {base g : Nat} {e : TypeId} {size : Nat} {v : Value} {n : Nat} {xs : List Value} {cs : Array Value} (h : w.ownsRow base e size v n xs) (hg : g < base) : (w.setRow g cs).ownsRow base e size v n xs := by
  refine ⟨h.1, ?_⟩
  rcases h.2 with h0 | ⟨g', cap, cur, rfl, hg', hh, hr⟩
  · exact .inl h0
  · exact .inr ⟨g', cap, cur, rfl, hg', (setRow_other w g g' cs (by omega)).trans hh, hr⟩
theorem UdP.bad {w w' : World} {e : Ending} {x : Int} (he : e = .returned (.tuple #[.agg zDc.toArray, .int .i64 x])) (h : Below w.heap.size w w') : UdP w w' e 0 0 0 0 [] x :=
  ⟨none, 0, 0, he, ⟨World.ownsRow_nil _ _ _ _, h⟩, rfl⟩
set_option maxRecDepth 100000 in
set_option maxHeartbeats 3200000 in
theorem udd_any (x : Int) (s : Nat) (p1 p2 p3 p4 : Nat) (l1 l2 l3 l4 : List UInt8) (e1 e2 e3 e4 : Int) (fr to_ : Int) (A : Option Addr) (l : List UInt8) (c : Nat) (w : World) (hb : Bytes w A l) (hl : l.length ≤ 1000000) (hc : l.length ≤ c) (Q : Qs l p1 p2 p3 p4 l1 l2 l3 l4 e1 e2 e3 e4)
    (f g h i : Int) (D : List UInt8) (HS : Hid (sumU fr to_ (l.take p3) = s))
    (hx : (((x = 2 ∧ e4 = 2) ∨ (x = 3 ∧ e4 = 0 ∧ p3 < 8) ∨ (x = 2 ∧ e4 = 0 ∧ 8 ≤ p3 ∧ l.length < p3) ∨ (x = 4 ∧ e4 = 0 ∧ 8 ≤ p3 ∧ p3 ≤ l.length ∧ p4 ≠ 0 ∧ s ≠ 0)) ∧ f = 0 ∧ g = 0 ∧ h = 0 ∧ i = 0 ∧ D = []) ∨
      (x = 0 ∧ e4 = 0 ∧ 8 ≤ p3 ∧ p3 ≤ l.length ∧ (p4 = 0 ∨ p4 ≠ 0 ∧ s = 0) ∧ f = fr ∧ g = p1 ∧ h = to_ ∧ i = p2 ∧ D = (l.take p3).drop 8 ∧ l4 = l.drop 8))
    (f0 : 0 ≤ fr) (f1 : fr ≤ 4294967295) (t0 : 0 ≤ to_) (t1 : to_ ≤ 4294967295) :
    Calls Try.prog 25 #[.int .u32 fr, .int .u32 to_, .slice A l.length c] w fun e w' => UdP w w' e f g h i D x := by
  have HP3 := Lib.hid Q.p3_le
  obtain ⟨⟨q1, k1⟩, ⟨q2, k2⟩, ⟨q3, k3⟩, ⟨q4, k4⟩⟩ := Q
  have Q1 := Lib.hid q1; have Q2 := Lib.hid q2; have Q3 := Lib.hid q3; have Q4 := Lib.hid q4
  have K1 := Lib.hid k1; have K2 := Lib.hid k2; have K3 := Lib.hid k3
  clear q1 q2 q3 q4 k1 k2 k3 k4
  have HX := Lib.hid hx; clear hx
  go_enter Try.func25, Try.ntmps25
  go_wp2_with fail
  refine (newReader _ A l _ c (hb.al _) rfl (by omega)).mono ?_
  rintro e w1 ⟨b, rfl, hbz, hR, hb1⟩
  simp at hbz
  have Z1 := Lib.hid ((Blk.new w 37 zDc.toArray).nx hb1)
  have B1 := Lib.hid (nx (al (rf w) _) hb1)
  clear hb1
  go_wp2_with fail
  refine (two_rd _ b l l1 0 e1 p1 hR (.inl rfl) Q1).mono ?_
  rintro e w2 ⟨rfl, hR2, g2⟩
  have Z2 := Lib.hid (Z1.out.only g2 (by omega))
  have B2 := Lib.hid (B1.out.trans (below_only g2 (by omega) B1.out.size))
  clear g2 hR
  go_wp2_with fail
  refine (two_rd _ b l1 l2 e1 e2 p2 hR2 K1 Q2).mono ?_
  rintro e w3 ⟨rfl, hR3, g3⟩
  have Z3 := Lib.hid (Z2.out.only g3 (by omega))
  have B3 := Lib.hid (B2.out.trans (below_only g3 (by omega) B2.out.size))
  clear g3 hR2
  have zz3 := Z3.out.lt
  have U3 : Hid (Ud w (w3.alloc (.cells #[.int .u32 fr, .int .i64 p1, .int .u32 to_, .int .i64 p2, .slice none 0 0] 37)) b w3.heap.size [.int .u32 fr, .int .i64 p1, .int .u32 to_, .int .i64 p2, .slice none 0 0] l2 e2) :=
    ⟨hR3.nx (al (rf w3) _), Z3.out.alloc _, Blk.new _ _ _, al B3.out _, by omega, zz3, by have := hR3.lt; omega⟩
  clear Z1 B1 Z2 B2 hR3 hbz
  go_wp2_with fail
  refine (two_rd _ b l2 l3 e2 e3 p3 U3.out.r K2 Q3).mono ?_
  rintro e w4 ⟨rfl, hR4, g4⟩
  have U4 := Lib.hid (U3.out.to_ hR4 g4); clear hR4 g4 Z3 B3 U3
  generalize w3.heap.size = gd at *
  go_wp2_with fail
  refine (two_rd _ b l3 l4 e3 e4 p4 U4.out.r K3 Q4).mono ?_
  rintro e w5 ⟨rfl, hR5, g5⟩
  have U5 := Lib.hid (U4.out.to_ hR5 g5); clear hR5 g5 U4
  have Z5 := Lib.hid U5.out.z
  go_wp2_with fail
  refine (rerr _ b _ e4 U5.out.r).mono ?_
  rintro e w6 ⟨rfl, hw⟩
  subst hw
  rcases HX.out with ⟨hx, rfl, rfl, rfl, rfl, rfl⟩ | ⟨rfl, he4, h3, hn, hs, rfl, rfl, rfl, rfl, hD, hl4⟩
  · rcases hx with ⟨rfl, rfl⟩ | ⟨rfl, rfl, h3⟩ | ⟨rfl, rfl, h3, hn⟩ | ⟨rfl, rfl, h3, hn, h4, hs⟩
    · go_wp2_with fail
      refine (rerr _ b _ 2 U5.out.r).mono ?_
      rintro e w6 ⟨rfl, hw⟩
      subst hw
      go_wp2_with (refine wpList_store_row rfl 37 (.tmp 6) (.tmp 29) rfl _ zDc.toArray rfl rfl _ _ Z5.out (by kernel_rfl) rfl (by kernel_rfl) ?_)
      exact bodyPost_ret (v := .tuple #[.agg zDc.toArray, .int .i64 2]) ((run_results_cell_tmp rfl _ _ _ _ _ _ _ rfl (setRow_heap _ _ _ _ _ _ Z5.out) Try.underlying37 rfl (by kernel_rfl)).trans rfl) rfl (UdP.bad rfl (below_setRow U5.out.bel (Nat.le_refl _) _))
    · have i4 : (p3 : Int) < 8 := by omega
      clear h3 HX
      go_wp2_with (refine wpList_store_row rfl 37 (.tmp 6) (.tmp 35) rfl _ zDc.toArray rfl rfl _ _ Z5.out (by kernel_rfl) rfl (by kernel_rfl) ?_)
      exact bodyPost_ret (v := .tuple #[.agg zDc.toArray, .int .i64 3]) ((run_results_cell_tmp rfl _ _ _ _ _ _ _ rfl (setRow_heap _ _ _ _ _ _ Z5.out) Try.underlying37 rfl (by kernel_rfl)).trans rfl) rfl (UdP.bad rfl (below_setRow U5.out.bel (Nat.le_refl _) _))
    · have i4 : ¬ (p3 : Int) < 8 := by omega
      have i5 : (l.length : Int) < p3 := by omega
      clear h3 hn HX
      go_wp2_with (refine wpList_store_row rfl 37 (.tmp 6) (.tmp 41) rfl _ zDc.toArray rfl rfl _ _ Z5.out (by kernel_rfl) rfl (by kernel_rfl) ?_)
      exact bodyPost_ret (v := .tuple #[.agg zDc.toArray, .int .i64 2]) ((run_results_cell_tmp rfl _ _ _ _ _ _ _ rfl (setRow_heap _ _ _ _ _ _ Z5.out) Try.underlying37 rfl (by kernel_rfl)).trans rfl) rfl (UdP.bad rfl (below_setRow U5.out.bel (Nat.le_refl _) _))
    · have i4 : ¬ (p3 : Int) < 8 := by omega
      have i5 : ¬ (l.length : Int) < p3 := by omega
      have i6 : ((p4 : Int) != 0) = true := by rw [bne_iff_ne]; omega
      have i7 : ((s : Int) != 0) = true := by rw [bne_iff_ne]; omega
      have i9 : (p3 : Int) ≤ c := by omega
      have HT : Hid ((l.take p3).length = p3) := by show _ = _; rw [List.length_take]; omega
      clear h3 h4 hs HX
      go_wp2_with fail
      refine (usumC fr to_ A (l.take p3) p3 c _ (take_bytes (hb.nx U5.out.bel) hn) HT.out.symm (by rw [HT.out]; have := HP3.out; omega) f0 f1 t0 t1).mono ?_
      rintro e w7 ⟨rfl, b7⟩
      rw [HS.out]
      have Z7 := Lib.hid (Z5.out.nx b7)
      have B7 := Lib.hid (nx U5.out.bel b7)
      clear b7
      go_wp2_with (refine wpList_store_row rfl 37 (.tmp 6) (.tmp 54) rfl _ zDc.toArray rfl rfl _ _ Z7.out (by kernel_rfl) rfl (by kernel_rfl) ?_)
      exact bodyPost_ret (v := .tuple #[.agg zDc.toArray, .int .i64 4]) ((run_results_cell_tmp rfl _ _ _ _ _ _ _ rfl (setRow_heap _ _ _ _ _ _ Z7.out) Try.underlying37 rfl (by kernel_rfl)).trans rfl) rfl (UdP.bad rfl (below_setRow B7.out (Nat.le_refl _) _))
  · subst he4 hl4
    have i4 : ¬ (p3 : Int) < 8 := by omega
    have i5 : ¬ (l.length : Int) < p3 := by omega
    have i9 : (p3 : Int) ≤ c := by omega
    have i10 : (8 : Int) ≤ p3 := by omega
    have HT : Hid ((l.take p3).length = p3) := by show _ = _; rw [List.length_take]; omega
    have hDD : (l.drop 8).take (p3 - 8) = D := by rw [hD, List.drop_take]
    have HDD := Lib.hid hDD
    have HL := Lib.hid (show p3 - 8 ≤ (l.drop 8).length by rw [List.length_drop]; omega)
    have HP := Lib.hid (show (p3 : Int) - 8 = ((p3 - 8 : Nat) : Int) by omega)
    clear hD hDD HX
    rcases hs with hs | ⟨h4, hs⟩
    focus
      have i6 : ((p4 : Int) != 0) = false := by rw [bne_eq_false_iff_eq]; omega
      clear hs
      go_wp2_with fail
      have U6 := U5
      clear U5 Z5
    rotate_left
    focus
      have i6 : ((p4 : Int) != 0) = true := by rw [bne_iff_ne]; omega
      subst hs
      have i7 : (((0 : Nat) : Int) != 0) = false := rfl
      clear h4
      go_wp2_with fail
      refine (usumC f h A (l.take p3) p3 c _ (take_bytes (hb.nx U5.out.bel) hn) HT.out.symm (by rw [HT.out]; have := HP3.out; omega) f0 f1 t0 t1).mono ?_
      rintro e w7 ⟨rfl, b7⟩
      rw [HS.out]
      have U6 := Lib.hid (U5.out.nx b7)
      clear b7 U5 Z5
      go_wp2_with fail
    all_goals
      refine (rraw_ok _ b (l.drop 8) (p3 - 8) _ U6.out.r HL.out HP.out).mono ?_
      rintro e w8 ⟨A8, c8, rfl, own8, hR8, g8⟩
      rw [HDD.out] at own8 ⊢
      have U8 := U6.out.to_ hR8 g8
      have zg := U6.out.d.lt
      have zg2 := U6.out.hg
      have O8 := Lib.hid own8
      generalize hn8 : D.length = n8 at O8 ⊢
      have HN8 := Lib.hid hn8
      have c4 : w8.cell? ⟨gd, 4, none⟩ = some (.slice none 0 0) := U8.d.cell 4
      have f4 := U8.d.frozen 4
      have D9 := Lib.hid (U8.d.set_ 4 (.slice A8 n8 c8))
      have Z9 := Lib.hid (U8.z.far (p := ⟨gd, 4, none⟩) (Nat.ne_of_lt zg2) (.slice A8 n8 c8))
      have B9 := Lib.hid (U8.bel.setCell (p := ⟨gd, 4, none⟩) (Nat.le_of_lt zg2) (.slice A8 n8 c8))
      have B8 := Lib.hid U8.bel.size
      clear own8 g8 hR8 hn8 U8
      go_wp2_with (first | (refine wpList_load_row rfl 37 (.tmp 9) rfl _ rfl _ _ _ _ D9.out Try.underlying37 rfl (by kernel_rfl) ?_) | (refine wpList_store_row rfl 37 (.tmp 6) (.tmp 60) rfl _ _ rfl rfl _ _ Z9.out (by kernel_rfl) rfl (by kernel_rfl) ?_))
      refine bodyPost_ret (v := .tuple #[dgV f p1 h p2 (.slice A8 n8 c8), .int .i64 0]) ((run_results_cell_tmp rfl _ _ _ _ _ _ _ rfl (setRow_heap _ _ _ _ _ _ Z9.out) Try.underlying37 rfl (by kernel_rfl)).trans rfl) rfl ⟨A8, n8, c8, rfl, ⟨?_, below_setRow B9.out (Nat.le_refl _) _⟩, HN8.out.symm⟩
      rw [HN8.out]
      exact own_base (own_setRow (g := w.heap.size) (ownsRow_setCell_below O8.out (a := ⟨gd, 4, none⟩) zg (.slice A8 n8 c8)) (by omega)) (by omega)
end Go.Proofs.Ytbhplleaokncpaa
