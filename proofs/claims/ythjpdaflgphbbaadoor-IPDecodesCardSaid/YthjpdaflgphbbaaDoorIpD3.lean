/-
  IP: the program's Decode behind the header's sum.
-/
import Derived.Test.YthjpdaflgphbbaaDoorIpD2
import Derived.Test.YthjpdaflgphbbaaDoorIpS
set_option linter.unusedVariables false
namespace Go.Proofs.YthjpdaflgphbbaaDoor
open Go.RowKit

section
variable {w W : World} {b g : Nat} {cs : List Value} {l : List UInt8}
theorem ddB (k : Nat) (h : Dd w W b g cs (l.drop k)) (hl : k + 1 ≤ l.length) : Calls Tryd.prog 45 #[.pointer (some ⟨b, 0, none⟩)] W fun e W' => ∃ x : Nat, x = beN ((l.drop k).take 1) ∧ e = .returned (.int .i64 x) ∧ Dd w W' b g cs (l.drop (k + 1)) := by
  refine (rb1 W b (l.drop k) h.r (by rw [List.length_drop]; omega)).mono ?_
  rintro e W' ⟨rfl, r, k⟩
  rw [List.drop_drop] at r
  exact ⟨_, rfl, rfl, h.to_ r k⟩
theorem ddT (k : Nat) (h : Dd w W b g cs (l.drop k)) (hl : k + 2 ≤ l.length) : Calls Tryd.prog 46 #[.pointer (some ⟨b, 0, none⟩)] W fun e W' => ∃ x : Nat, x = beN ((l.drop k).take 2) ∧ e = .returned (.int .i64 x) ∧ Dd w W' b g cs (l.drop (k + 2)) := by
  refine (rb2 W b (l.drop k) h.r (by rw [List.length_drop]; omega)).mono ?_
  rintro e W' ⟨rfl, r, k⟩
  rw [List.drop_drop] at r
  exact ⟨_, rfl, rfl, h.to_ r k⟩
theorem ddF (k : Nat) (h : Dd w W b g cs (l.drop k)) (hl : k + 4 ≤ l.length) : Calls Tryd.prog 47 #[.pointer (some ⟨b, 0, none⟩)] W fun e W' => ∃ x : Nat, x = beN ((l.drop k).take 4) ∧ e = .returned (.int .u32 x) ∧ Dd w W' b g cs (l.drop (k + 4)) := by
  refine (rb4 W b (l.drop k) h.r (by rw [List.length_drop]; omega)).mono ?_
  rintro e W' ⟨rfl, r, k⟩
  rw [List.drop_drop] at r
  exact ⟨_, rfl, rfl, h.to_ r k⟩
theorem ddR (k m : Nat) (x : Int) (h : Dd w W b g cs (l.drop k)) (hl : k + m ≤ l.length) (hx : x = m) : Calls Tryd.prog 48 #[.pointer (some ⟨b, 0, none⟩), .int .i64 x] W fun e W' => ∃ A' c', e = .returned (.slice A' m c') ∧ W'.ownsRow W.heap.size 5 1 (.slice A' m c') m (Lib.byteCells ((l.drop k).take m)) ∧ W.grownBy W' (some b) ∧ Dd w W' b g cs (l.drop (k + m)) := by
  refine (rbr W b (l.drop k) m x h.r (by rw [List.length_drop]; omega) hx).mono ?_
  rintro e W' ⟨A', c', rfl, own, r, kk⟩
  rw [List.drop_drop] at r
  have hlen : ((l.drop k).take m).length = m := by rw [List.length_take, List.length_drop]; omega
  rw [hlen] at own ⊢
  exact ⟨A', c', rfl, own, kk, h.to_ r kk⟩
end
theorem setB_ {w : World} {g i : Nat} {u : Value} : w.grownBy (w.setCell ⟨g, i, none⟩ u) (some g) := only_setCell (p := ⟨g, i, none⟩) (World.grownBy.refl _ _) (.inl rfl) _
theorem own_rd {w : World} {base : Nat} {A : Option Addr} {n c : Nat} {l : List UInt8} (h : w.ownsRow base 5 1 (.slice A n c) n (Lib.byteCells l)) : n = l.length ∧ Bytes w A l ∧ n ≤ c := by
  have e : n = l.length := by
    have := h.1
    rw [byteCells_len, Nat.mul_one] at this; exact this.symm
  subst e
  refine ⟨rfl, Bytes.own h, ?_⟩
  rcases h.2 with ⟨h1, h2⟩ | ⟨g, cap, cur, hv, _, _, hc, _⟩
  · omega
  · injection hv with _ _ h3; omega
theorem own_to {w : World} {base base' : Nat} {e : TypeId} {size : Nat} {v : Value} {n : Nat} {xs : List Value} (h : w.ownsRow base e size v n xs) (hb : base' ≤ base) : w.ownsRow base' e size v n xs := by
  refine ⟨h.1, ?_⟩
  rcases h.2 with h0 | ⟨g', cap, cur, rfl, hg', hh, hr⟩
  · exact .inl h0
  · exact .inr ⟨g', cap, cur, rfl, by omega, hh, hr⟩
theorem own_nx2 {w w' : World} {base : Nat} {e : TypeId} {size : Nat} {v : Value} {n : Nat} {xs : List Value} (h : w.ownsRow base e size v n xs) (k : Below w.heap.size w w') : w'.ownsRow base e size v n xs := by
  refine ⟨h.1, ?_⟩
  rcases h.2 with h0 | ⟨g', cap, cur, rfl, hg', hh, hr⟩
  · exact .inl h0
  · exact .inr ⟨g', cap, cur, rfl, hg', Blk.nx hh k, hr⟩
theorem setRow_only (w : World) (g : Nat) (cs : Array Value) : w.grownBy (w.setRow g cs) (some g) :=
  ⟨rfl, rfl, rfl, by simp [World.setRow], fun i hi hne => by
    have : g ≠ i := fun e => hne (by rw [e])
    simp [World.setRow, Array.getElem?_modify, this]⟩
-- what Decode hands out
def DecR (l : List UInt8) (w : World) (e : Ending) (w' : World) : Prop :=
  (decG l = 0 ∧ ∃ o d, e = .returned (.tuple #[.agg ((decPk l).cs o d).toArray, .int .i64 0]) ∧ w'.ownsRow w.heap.size 5 1 o (nF l - 20) (Lib.byteCells (decPk l).op) ∧ w'.ownsRow w.heap.size 5 1 d (wlF l - nF l) (Lib.byteCells (decPk l).da) ∧ (∀ i, o.ownBlock = some i → d.ownBlock ≠ some i) ∧ Below w.heap.size w w') ∨
  (decG l ≠ 0 ∧ e = .returned (.tuple #[.agg zCs.toArray, .int .i64 (decG l)]) ∧ Below w.heap.size w w')
theorem decF_ok {l : List UInt8} (h : decF l = 0) : 20 ≤ l.length ∧ (l.getD 0 0).toNat / 16 = 4 ∧ 20 ≤ nF l ∧ nF l ≤ l.length ∧ nF l ≤ wlF l ∧ wlF l ≤ l.length ∧ sumB (l.take (nF l)) = 0 := by
  unfold decF at h
  split at h
  · omega
  split at h
  · omega
  split at h
  · omega
  split at h
  · omega
  split at h
  · omega
  split at h
  · omega
  rename_i h1 h2 h3 h4 h5 h6
  refine ⟨by omega, by omega, by omega, by omega, by omega, by omega, ?_⟩
  simpa using h6
set_option maxHeartbeats 6400000 in
set_option maxRecDepth 10000 in
theorem decC (w : World) (A : Option Addr) (l : List UInt8) (n c : Nat) (hb : Bytes w A l) (hn : n = l.length) (hc : l.length ≤ c) (hl : l.length ≤ 1000000) (hx : decF l = 0) :
    Calls Tryd.prog 22 #[.slice A n c] w (DecR l w) := by
  have HN := Lib.hid hn; clear hn
  have hnl : n = l.length := HN.out
  obtain ⟨h20, hv4, hq20, hql, hqw, hwl, hsm⟩ := decF_ok hx
  have Z0 : Hid (Blk (w.alloc (.cells #[.int .i64 0, .int .i64 0, .bool false, .bool false, .int .i64 0, .int .i64 0, .int .i64 0, .int .u32 0, .int .u32 0, .slice none 0 0, .slice none 0 0] 26)) w.heap.size 26 zCs.toArray) := Blk.new w _ _
  have B0 : Hid (Below w.heap.size w (w.alloc (.cells #[.int .i64 0, .int .i64 0, .bool false, .bool false, .int .i64 0, .int .i64 0, .int .i64 0, .int .u32 0, .int .u32 0, .slice none 0 0, .slice none 0 0] 26))) := al (rf w) _
  have i1 : ¬ (n : Int) < 20 := by omega
  obtain ⟨ad, rfl, _, hcl⟩ := (hb.nx B0.out).at_ (show 0 < l.length by omega)
  have hc0 : (w.alloc (.cells #[.int .i64 0, .int .i64 0, .bool false, .bool false, .int .i64 0, .int .i64 0, .int .i64 0, .int .u32 0, .int .u32 0, .slice none 0 0, .slice none 0 0] 26)).cell? ad = some (.int .u8 l[0].toNat) := hcl
  have hg0 : (l.getD 0 0).toNat = l[0].toNat := by rw [List.getD_eq_getElem?_getD, List.getElem?_eq_getElem (by omega)]; rfl
  rw [hg0] at hv4
  have bb := l[0].toNat_lt
  have hqe : nF l = l[0].toNat % 16 * 4 := by unfold nF; rw [hg0]
  generalize l[0].toNat = b0 at hc0 hcl hg0 bb hv4 hqe
  have a1 := u8_and15 (x := (b0 : Int)) (by omega) (by omega)
  obtain ⟨q, hq⟩ : ∃ q, q = nF l := ⟨_, rfl⟩
  obtain ⟨wl, hwle⟩ : ∃ wl, wl = wlF l := ⟨_, rfl⟩
  rw [← hq] at hq20 hql hqw hqe hsm
  rw [← hwle] at hqw hwl
  have q1 : (b0 : Int) % 16 * 4 = q := by omega
  have qb : q ≤ 60 := by omega
  have HQ := Lib.hid hq
  have HWL := Lib.hid hwle
  have HX := Lib.hid hx
  have i2 : (0 : Int) < n := by omega
  have y1 : ((b0 : Int) / 16 != 4) = false := by rw [bne_eq_false_iff_eq]; omega
  have y2 : ¬ (q : Int) < 20 := by omega
  have y3 : ¬ (n : Int) < q := by omega
  have y4 : ¬ (wl : Int) < q := by omega
  have y5 : ¬ (n : Int) < wl := by omega
  have y7 : (q : Int) ≤ c := by omega
  have y8 : (0 : Int) ≤ q := by omega
  obtain ⟨on, hon⟩ : ∃ on, on = q - 20 := ⟨_, rfl⟩
  obtain ⟨dn, hdn⟩ : ∃ dn, dn = wl - q := ⟨_, rfl⟩
  have y9 : (q : Int) - 20 = on := by omega
  have y10 : (wl : Int) - q = dn := by omega
  have onb : on ≤ 40 := by omega
  have dnb : dn ≤ 1000000 := by omega
  have lb : l.length ≤ 1000000 := hl
  have hlq : (l.take q).length = q := by rw [List.length_take]; omega
  have HSUM : Hid (∀ W, Below w.heap.size w W → Calls Tryd.prog 26 #[.slice (some ad) q c] W fun e w' => e = .returned (.int .i64 0) ∧ w' = W) := fun W k => by
    have := sumC (some ad) c (l.take q) q W (take_bytes (hb.nx k) hql) hlq.symm (by rw [hlq]; omega)
    rw [hsm] at this; exact this
  have HBO := Lib.hid hb
  have HL : Hid (l.length ≤ 1000000 ∧ 20 ≤ q ∧ q ≤ wl ∧ wl ≤ l.length ∧ q ≤ 60 ∧ on = q - 20 ∧ dn = wl - q) := ⟨hl, hq20, hqw, hwl, qb, hon, hdn⟩
  clear hb hq hwle hx hcl hg0 hqe hlq hsm hl hv4 bb hnl hon hdn h20 hq20 hql hqw hwl
  go_enter Tryd.func22, Tryd.ntmps22
  go_wp2_with fail
  refine (newReader _ (some ad) l _ c (HBO.out.nx B0.out) HN.out (by have := HL.out; omega)).mono ?_
  rintro e1 w1 ⟨b, rfl, hbz, hR, b1⟩
  have hbw : w.heap.size < b := by simp at hbz; omega
  have Z1 := Lib.hid (Z0.out.nx b1)
  have B1 := Lib.hid (nx B0.out b1)
  have R1 := Lib.hid hR
  clear b1 hR hbz hc0
  go_wp2_with fail
  refine (rb1 w1 b l R1.out (by have := HL.out; omega)).mono ?_
  rintro e2 w2 ⟨rfl, hR, g2⟩
  have hbl := hR.lt
  have D0 : Hid (Dd w (w2.alloc (.cells #[.int .i64 0, .int .i64 0, .bool false, .bool false, .int .i64 0, .int .i64 0, .int .i64 0, .int .u32 0, .int .u32 0, .slice none 0 0, .slice none 0 0] 26)) b w2.heap.size zCs (l.drop 1)) :=
    ⟨hR.nx (al (rf w2) _), (Z1.out.only g2 (by omega)).alloc _, Blk.new w2 _ _, al (B1.out.trans (below_only g2 (by omega) B1.out.size)) _, hbw, by have := g2.size; have := Z1.out.lt; omega, by omega⟩
  clear hR g2 hbl Z1 B1 R1 Z0 B0
  go_wp2_with fail
  generalize hG : w2.heap.size = g at D0 ⊢
  skip
  refine (ddB 1 D0.out (by have := HL.out; omega)).mono ?_
  rintro e1 v1 ⟨sv, hx, rfl, d⟩
  have D1 := Lib.hid d
  have Xsv := Lib.hid hx
  clear d hx D0
  have c0 : v1.cell? ⟨g, 0, none⟩ = some (.int .i64 0) := D1.out.cell 0
  have f0 : v1.frozen? ⟨g, 0, none⟩ = false := D1.out.d.frozen 0
  have D2 := Lib.hid (D1.out.set_ 0 (.int .i64 (sv : Nat)))
  clear D1
  go_wp2_with fail
  refine (ddT 2 D2.out (by have := HL.out; omega)).mono ?_
  rintro e3 v3 ⟨wl2, hx, rfl, d⟩
  have D3 := Lib.hid d
  have Xwl2 := Lib.hid hx
  clear d hx D2
  rw [show wl2 = wl from Xwl2.out.trans HWL.out.symm]
  clear Xwl2
  go_wp2_with fail
  refine (HSUM.out _ D3.out.bel).mono ?_
  rintro e9 v9 ⟨rfl, rfl⟩
  go_wp2_with fail
  refine (ddT 4 D3.out (by have := HL.out; omega)).mono ?_
  rintro e4 v4 ⟨id_, hx, rfl, d⟩
  have D4 := Lib.hid d
  have Xid_ := Lib.hid hx
  clear d hx D3
  have c1 : v4.cell? ⟨g, 1, none⟩ = some (.int .i64 0) := D4.out.cell 1
  have f1 : v4.frozen? ⟨g, 1, none⟩ = false := D4.out.d.frozen 1
  have D5 := Lib.hid (D4.out.set_ 1 (.int .i64 (id_ : Nat)))
  clear D4
  go_wp2_with fail
  refine (ddT 6 D5.out (by have := HL.out; omega)).mono ?_
  rintro e6 v6 ⟨B, hx, rfl, d⟩
  have D6 := Lib.hid d
  have XB := Lib.hid hx
  clear d hx D5
  have hB : B < 65536 := by
    have := beN_lt ((l.drop 6).take 2)
    have h2 : ((l.drop 6).take 2).length = 2 := by have := HL.out; rw [List.length_take, List.length_drop]; omega
    rw [h2] at this
    have := XB.out
    omega
  obtain ⟨wh, hwh⟩ : ∃ wh, wh = decide (B / 16384 % 2 = 1) := ⟨_, rfl⟩
  obtain ⟨mo, hmo⟩ : ∃ mo, mo = decide (B / 8192 % 2 = 1) := ⟨_, rfl⟩
  have q14 : (bits .and .i64 (B : Int) 16384 != 0) = wh := by rw [hwh]; exact and_bit B 14 hB (by omega)
  have q13 : (bits .and .i64 (B : Int) 8192 != 0) = mo := by rw [hmo]; exact and_bit B 13 hB (by omega)
  obtain ⟨m13, hm13⟩ : ∃ m, m = B % 8192 := ⟨_, rfl⟩
  have qm : bits .and .i64 (B : Int) 8191 = (m13 : Nat) := by rw [hm13]; exact and13 B hB
  have m13b : m13 < 8192 := by omega
  have Xwh := Lib.hid hwh
  have Xmo := Lib.hid hmo
  have Xm := Lib.hid hm13
  clear hwh hmo hm13
  have c2 : v6.cell? ⟨g, 2, none⟩ = some (.bool false) := D6.out.cell 2
  have f2 : v6.frozen? ⟨g, 2, none⟩ = false := D6.out.d.frozen 2
  have c3 : v6.cell? ⟨g, 3, none⟩ = some (.bool false) := D6.out.cell 3
  have f3 : v6.frozen? ⟨g, 3, none⟩ = false := D6.out.d.frozen 3
  have c4 : v6.cell? ⟨g, 4, none⟩ = some (.int .i64 0) := D6.out.cell 4
  have f4 : v6.frozen? ⟨g, 4, none⟩ = false := D6.out.d.frozen 4
  have D7 := Lib.hid (((D6.out.set_ 2 (.bool wh)).set_ 3 (.bool mo)).set_ 4 (.int .i64 ((m13 : Int) * 8)))
  clear D6
  go_wp2_with fail
  refine (ddB 8 D7.out (by have := HL.out; omega)).mono ?_
  rintro e8 v8 ⟨lf, hx, rfl, d⟩
  have D8 := Lib.hid d
  have Xlf := Lib.hid hx
  clear d hx D7
  go_wp2_with fail
  refine (ddB 9 D8.out (by have := HL.out; omega)).mono ?_
  rintro e9 v9 ⟨pr, hx, rfl, d⟩
  have D9 := Lib.hid d
  have Xpr := Lib.hid hx
  clear d hx D8
  have c5 : v9.cell? ⟨g, 5, none⟩ = some (.int .i64 0) := D9.out.cell 5
  have f5 : v9.frozen? ⟨g, 5, none⟩ = false := D9.out.d.frozen 5
  have c6 : v9.cell? ⟨g, 6, none⟩ = some (.int .i64 0) := D9.out.cell 6
  have f6 : v9.frozen? ⟨g, 6, none⟩ = false := D9.out.d.frozen 6
  have D10 := Lib.hid ((D9.out.set_ 5 (.int .i64 (lf : Nat))).set_ 6 (.int .i64 (pr : Nat)))
  clear D9
  go_wp2_with fail
  refine (ddT 10 D10.out (by have := HL.out; omega)).mono ?_
  rintro e11 v11 ⟨ck, hx, rfl, d⟩
  have D11 := Lib.hid d
  have Xck := Lib.hid hx
  clear d hx D10
  clear Xck
  go_wp2_with fail
  refine (ddF 12 D11.out (by have := HL.out; omega)).mono ?_
  rintro e12 v12 ⟨fr, hx, rfl, d⟩
  have D12 := Lib.hid d
  have Xfr := Lib.hid hx
  clear d hx D11
  go_wp2_with fail
  refine (ddF 16 D12.out (by have := HL.out; omega)).mono ?_
  rintro e13 v13 ⟨to_, hx, rfl, d⟩
  have D13 := Lib.hid d
  have Xto_ := Lib.hid hx
  clear d hx D12
  have c7 : v13.cell? ⟨g, 7, none⟩ = some (.int .u32 0) := D13.out.cell 7
  have f7 : v13.frozen? ⟨g, 7, none⟩ = false := D13.out.d.frozen 7
  have c8 : v13.cell? ⟨g, 8, none⟩ = some (.int .u32 0) := D13.out.cell 8
  have f8 : v13.frozen? ⟨g, 8, none⟩ = false := D13.out.d.frozen 8
  have D14 := Lib.hid ((D13.out.set_ 7 (.int .u32 (fr : Nat))).set_ 8 (.int .u32 (to_ : Nat)))
  clear D13
  go_wp2_with fail
  generalize hV14 : World.setCell (World.setCell v13 ⟨g, 7, none⟩ (.int .u32 fr)) ⟨g, 8, none⟩ (.int .u32 to_) = V14 at D14 ⊢
  clear hV14
  have hb14 := D14.out.r.lt
  have hg14 := D14.out.d.lt
  have hs14 := D14.out.bel.size
  refine (ddR 20 on _ D14.out (by have := HL.out; omega) rfl).mono ?_
  rintro e15 v15 ⟨A9, k9, rfl, own, kk, d⟩
  rw [show 20 + on = q by have := HL.out; omega] at d
  have D15 := Lib.hid d
  have OW9 := Lib.hid own
  clear d own kk D14
  have c9 : v15.cell? ⟨g, 9, none⟩ = some (.slice none 0 0) := D15.out.cell 9
  have f9 : v15.frozen? ⟨g, 9, none⟩ = false := D15.out.d.frozen 9
  have D16 := Lib.hid (D15.out.set_ 9 (.slice A9 on k9))
  clear D15
  have O9a := Lib.hid (own_only OW9.out (setB_ (g := g) (i := 9) (u := .slice A9 on k9)) hg14)
  clear OW9
  go_wp2_with fail
  generalize hV16 : World.setCell v15 ⟨g, 9, none⟩ (.slice A9 on k9) = V16 at D16 O9a ⊢
  clear hV16
  have hb16 := D16.out.r.lt
  have hg16 := D16.out.d.lt
  have hs16 := D16.out.bel.size
  have AP9 : Hid (∀ i, (Value.slice A9 on k9).ownBlock = some i → i < V16.heap.size) := fun i hi => (O9a.out.lt i hi).2
  refine (ddR q dn _ D16.out (by have := HL.out; omega) rfl).mono ?_
  rintro e17 v17 ⟨A10, k10, rfl, own, kk, d⟩
  have D17 := Lib.hid d
  have OW10 := Lib.hid own
  have O9b := Lib.hid (own_only O9a.out kk hb14)
  clear d own kk D16 O9a
  have c10 : v17.cell? ⟨g, 10, none⟩ = some (.slice none 0 0) := D17.out.cell 10
  have f10 : v17.frozen? ⟨g, 10, none⟩ = false := D17.out.d.frozen 10
  have D18 := Lib.hid (D17.out.set_ 10 (.slice A10 dn k10))
  clear D17
  have O9c := Lib.hid (own_only O9b.out (setB_ (g := g) (i := 10) (u := .slice A10 dn k10)) hg14)
  have O10c := Lib.hid (own_only OW10.out (setB_ (g := g) (i := 10) (u := .slice A10 dn k10)) hg16)
  clear O9b OW10
  have hwl : wl < 65536 := by
    have := beN_lt ((l.drop 2).take 2)
    have h2 : ((l.drop 2).take 2).length = 2 := by have := HL.out; rw [List.length_take, List.length_drop]; omega
    rw [h2] at this
    have h3 : wl = beN ((l.drop 2).take 2) := HWL.out
    omega
  have hfr : fr < 4294967296 := by
    have := beN_lt ((l.drop 12).take 4)
    have h2 : ((l.drop 12).take 4).length = 4 := by have := HL.out; rw [List.length_take, List.length_drop]; omega
    rw [h2] at this
    have := Xfr.out
    omega
  have hto : to_ < 4294967296 := by
    have := beN_lt ((l.drop 16).take 4)
    have h2 : ((l.drop 16).take 4).length = 4 := by have := HL.out; rw [List.length_take, List.length_drop]; omega
    rw [h2] at this
    have := Xto_.out
    omega
  obtain ⟨eo, RO, co⟩ := own_rd O9c.out
  obtain ⟨ed, RD, cd⟩ := own_rd O10c.out
  obtain ⟨op, hop⟩ : ∃ op, op = (l.drop 20).take on := ⟨_, rfl⟩
  obtain ⟨da, hda⟩ : ∃ da, da = (l.drop q).take dn := ⟨_, rfl⟩
  rw [← hop] at O9c eo RO
  rw [← hda] at O10c ed RD
  have hB6 : bitsF l = B := XB.out.symm
  have HP : Hid (decPk l = ⟨(sv : Nat), (id_ : Nat), wh, mo, (m13 : Int) * 8, (lf : Nat), (pr : Nat), fr, to_, op, da⟩) := by
    have e1 : nF l = q := HQ.out.symm
    have e2 : wlF l = wl := HWL.out.symm
    have e3 := HL.out
    show _ = _
    unfold decPk
    rw [hB6, e1, e2, ← Xsv.out, ← Xlf.out, ← Xpr.out, ← Xfr.out, ← Xto_.out, ← Xwh.out, ← Xmo.out, ← Xm.out, show two l 4 = id_ from Xid_.out.symm, hop, hda, e3.2.2.2.2.2.1, e3.2.2.2.2.2.2]
    congr 1
  have HG : Hid (decG l = if 32768 ≤ B ∨ gd op 0 = false then 3 else if inP (decPk l) = false then 5 else 0) := by
    show _ = _
    unfold decG
    rw [hB6, HP.out]
  have HIN := Lib.hid HP.out
  obtain ⟨pk, hpk⟩ : ∃ pk : Pk, pk = ⟨(sv : Nat), (id_ : Nat), wh, mo, (m13 : Int) * 8, (lf : Nat), (pr : Nat), fr, to_, op, da⟩ := ⟨_, rfl⟩
  have DE : Hid (Dd w (World.setCell v17 ⟨g, 10, none⟩ (.slice A10 dn k10)) b g (pk.cs (.slice A9 on k9) (.slice A10 dn k10)) (l.drop (q + dn))) := by rw [hpk]; exact D18
  have IP : Hid (IsPk (World.setCell v17 ⟨g, 10, none⟩ (.slice A10 dn k10)) pk (.slice A9 on k9) (.slice A10 dn k10)) := by
    rw [hpk]
    exact ⟨⟨A9, k9, by rw [← eo], RO, by rw [← eo]; exact co⟩, ⟨A10, k10, by rw [← ed], RD, by rw [← ed]; exact cd⟩, by show i64 ((m13 : Int) * 8); unfold i64; omega, hfr, hto, by rw [← eo]; omega, by rw [← ed]; have := HL.out; omega⟩
  have hoff : 0 ≤ pk.off ∧ pk.off ≤ 1000000 := by rw [hpk]; constructor <;> (show _ ≤ _; simp only []; omega)
  have HWI := Lib.hid (withinC (World.setCell v17 ⟨g, 10, none⟩ (.slice A10 dn k10)) pk _ _ IP.out hoff.1 hoff.2)
  rw [← hpk] at HP
  have c9e : (World.setCell v17 ⟨g, 10, none⟩ (.slice A10 dn k10)).cell? ⟨g, 9, none⟩ = some (.slice A9 on k9) := DE.out.cell 9
  have GC := Lib.hid (goodC (World.setCell v17 ⟨g, 10, none⟩ (.slice A10 dn k10)) A9 op on k9 RO eo (by rw [← eo]; exact co) (by rw [← eo]; omega))
  have HPK := Lib.hid hpk
  clear hpk HIN hoff RO RD co cd hop hda hfr hto hwl hB6 eo ed D18 q14 q13 qm
  by_cases h15 : 32768 ≤ B
  · have HR : Hid (decG l = 3) := by show _ = _; rw [HG.out, if_pos (.inl h15)]
    have y15 : ¬ (B : Int) / 32768 = 0 := by omega
    go_wp2_with fail
    refine (failC 3 _).mono ?_
    rintro e9 w9 ⟨rfl, b9⟩
    have Z9 := Lib.hid (DE.out.z.nx b9)
    have B9 := Lib.hid (nx DE.out.bel b9)
    go_wp2_with (refine wpList_store_row rfl 26 (.tmp 2) (.tmp 130) rfl _ zCs.toArray rfl rfl _ _ Z9.out (by kernel_rfl) rfl (by kernel_rfl) ?_)
    refine bodyPost_ret (v := .tuple #[.agg zCs.toArray, .int .i64 3]) ((run_results_cell_tmp rfl _ _ _ _ _ _ _ rfl (setRow_heap _ _ _ _ _ _ Z9.out) Tryd.underlying26 rfl (by kernel_rfl)).trans rfl) rfl ?_
    exact .inr ⟨by rw [HR.out]; decide, by rw [HR.out], below_setRow B9.out (Nat.le_refl _) _⟩
  · have y15 : (B : Int) / 32768 = 0 := by omega
    have hnot : ∀ (x : Bool) (w : World), (Op.unary .not (.bool x)).run Tryd.prog w = .ok (.bool (!x)) w := fun _ _ => rfl
    go_wp2_with fail
    refine GC.out.mono ?_
    rintro e19 v19 ⟨rfl, rfl⟩
    cases hgd : gd op 0
    · have HR : Hid (decG l = 3) := by show _ = _; rw [HG.out, if_pos (.inr hgd)]
      go_wp2_with fail
      refine (failC 3 _).mono ?_
      rintro e9 w9 ⟨rfl, b9⟩
      have Z9 := Lib.hid (DE.out.z.nx b9)
      have B9 := Lib.hid (nx DE.out.bel b9)
      go_wp2_with (refine wpList_store_row rfl 26 (.tmp 2) (.tmp 130) rfl _ zCs.toArray rfl rfl _ _ Z9.out (by kernel_rfl) rfl (by kernel_rfl) ?_)
      refine bodyPost_ret (v := .tuple #[.agg zCs.toArray, .int .i64 3]) ((run_results_cell_tmp rfl _ _ _ _ _ _ _ rfl (setRow_heap _ _ _ _ _ _ Z9.out) Tryd.underlying26 rfl (by kernel_rfl)).trans rfl) rfl ?_
      exact .inr ⟨by rw [HR.out]; decide, by rw [HR.out], below_setRow B9.out (Nat.le_refl _) _⟩
    · go_wp2_with ((with_reducible refine wpList_load_blk rfl 26 7 rfl g 0 11 (by kernel_rfl) 26 _ (pk.cs (.slice A9 on k9) (.slice A10 dn k10)) DE.out.d (by kernel_rfl) _ Tryd.underlying26 (by kernel_rfl) (by kernel_rfl) ?_))
      refine HWI.out.mono ?_
      rintro e20 v20 ⟨rfl, b20⟩
      have DF := Lib.hid (DE.out.nx b20)
      have O9d := Lib.hid (own_nx2 O9c.out b20)
      have O10d := Lib.hid (own_nx2 O10c.out b20)
      have HGS := Lib.hid (show w.heap.size < V14.heap.size ∧ w.heap.size < V16.heap.size by have := DE.out.hg; omega)
      clear b20 O9c O10c DE
      cases hin : inP pk
      · have HR : Hid (decG l = 5) := by show _ = _; rw [HG.out, if_neg (by simp [hgd]; omega), if_pos (by rw [HP.out]; exact hin)]
        go_wp2_with fail
        refine (failC 5 _).mono ?_
        rintro e9 w9 ⟨rfl, b9⟩
        have Z9 := Lib.hid (DF.out.z.nx b9)
        have B9 := Lib.hid (nx DF.out.bel b9)
        go_wp2_with (refine wpList_store_row rfl 26 (.tmp 2) (.tmp 137) rfl _ zCs.toArray rfl rfl _ _ Z9.out (by kernel_rfl) rfl (by kernel_rfl) ?_)
        refine bodyPost_ret (v := .tuple #[.agg zCs.toArray, .int .i64 5]) ((run_results_cell_tmp rfl _ _ _ _ _ _ _ rfl (setRow_heap _ _ _ _ _ _ Z9.out) Tryd.underlying26 rfl (by kernel_rfl)).trans rfl) rfl ?_
        exact .inr ⟨by rw [HR.out]; decide, by rw [HR.out], below_setRow B9.out (Nat.le_refl _) _⟩
      · have HR : Hid (decG l = 0) := by show _ = _; rw [HG.out, if_neg (by simp [hgd]; omega), if_neg (by rw [HP.out, hin]; simp)]
        go_wp2_with (first
          | ((with_reducible refine wpList_load_blk rfl 26 7 rfl g 0 11 (by kernel_rfl) 26 _ (pk.cs (.slice A9 on k9) (.slice A10 dn k10)) DF.out.d (by kernel_rfl) _ Tryd.underlying26 (by kernel_rfl) (by kernel_rfl) ?_))
          | (refine wpList_store_row rfl 26 (.tmp 2) (.tmp 139) rfl _ (pk.cs (.slice A9 on k9) (.slice A10 dn k10)).toArray rfl rfl _ _ DF.out.z (by kernel_rfl) rfl (by kernel_rfl) ?_))
        refine bodyPost_ret (v := .tuple #[.agg (pk.cs (.slice A9 on k9) (.slice A10 dn k10)).toArray, .int .i64 0]) ((run_results_cell_tmp rfl _ _ _ _ _ _ _ rfl (setRow_heap _ _ _ _ _ _ DF.out.z) Tryd.underlying26 rfl (by kernel_rfl)).trans rfl) rfl ?_
        have e1 : on = nF l - 20 := by have := HL.out; have := HQ.out; omega
        have e2 : dn = wlF l - nF l := by have := HL.out; have := HQ.out; have := HWL.out; omega
        have e3 : (decPk l).op = op := by rw [HP.out, HPK.out]
        have e4 : (decPk l).da = da := by rw [HP.out, HPK.out]
        refine .inl ⟨HR.out, .slice A9 on k9, .slice A10 dn k10, by rw [HP.out], ?_, ?_, fun i hi hj => absurd (AP9.out i hi) (by have := (O10d.out.lt i hj).1; omega), below_setRow DF.out.bel (Nat.le_refl _) _⟩
        · rw [e3, ← e1]; exact own_to (own_only O9d.out (setRow_only _ _ _) HGS.out.1) hs14
        · rw [e4, ← e2]; exact own_to (own_only O10d.out (setRow_only _ _ _) HGS.out.2) hs16
end Go.Proofs.YthjpdaflgphbbaaDoor
