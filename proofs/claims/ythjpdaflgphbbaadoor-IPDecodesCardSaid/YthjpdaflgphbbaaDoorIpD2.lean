/-
  IP: the program's Decode behind the header's sum: the packet that is read.
-/
import Derived.Test.YthjpdaflgphbbaaDoorIpD
import Derived.Test.YthjpdaflgphbbaaDoorIpEn
set_option linter.unusedVariables false
namespace Go.Proofs.YthjpdaflgphbbaaDoor
open Go.RowKit

def two (l : List UInt8) (i : Nat) : Nat := beN ((l.drop i).take 2)
def bitsF (l : List UInt8) : Nat := two l 6
def decPk (l : List UInt8) : Pk := ⟨(beN ((l.drop 1).take 1) : Nat), (two l 4 : Nat), decide (bitsF l / 16384 % 2 = 1), decide (bitsF l / 8192 % 2 = 1), ((bitsF l % 8192 * 8 : Nat) : Int), (beN ((l.drop 8).take 1) : Nat), (beN ((l.drop 9).take 1) : Nat), beN ((l.drop 12).take 4), beN ((l.drop 16).take 4), (l.drop 20).take (nF l - 20), (l.drop (nF l)).take (wlF l - nF l)⟩
def decG (l : List UInt8) : Int := if 32768 ≤ bitsF l ∨ gd (decPk l).op 0 = false then 3 else if inP (decPk l) = false then 5 else 0
-- where the walk stands: the reader, the row that is handed out, the packet in the making
structure Dd (w W : World) (b g : Nat) (cs : List Value) (l : List UInt8) : Prop where
  r : IsR W b l 0
  z : Blk W w.heap.size 26 zCs.toArray
  d : Blk W g 26 cs.toArray
  bel : Below w.heap.size w W
  hb : w.heap.size < b
  hg : w.heap.size < g
  ne : g ≠ b
theorem Dd.to_ {w W W' : World} {b g : Nat} {cs : List Value} {l l' : List UInt8} (h : Dd w W b g cs l) (r : IsR W' b l' 0) (k : W.grownBy W' (some b)) : Dd w W' b g cs l' :=
  ⟨r, h.z.only k (by have := h.hb; omega), h.d.only k h.ne, h.bel.trans (below_only k (by have := h.hb; omega) h.bel.size), h.hb, h.hg, h.ne⟩
theorem Dd.set_ {w W : World} {b g : Nat} {cs : List Value} {l : List UInt8} (h : Dd w W b g cs l) (i : Nat) (u : Value) : Dd w (W.setCell ⟨g, i, none⟩ u) b g (cs.set i u) l := by
  have k : World.grownBy W (W.setCell ⟨g, i, none⟩ u) (some g) := only_setCell (p := ⟨g, i, none⟩) (World.grownBy.refl _ _) (.inl rfl) _
  refine ⟨h.r.far k h.d, h.z.only k (by have := h.hg; omega), ?_, h.bel.setCell (p := ⟨g, i, none⟩) (show w.heap.size ≤ g by have := h.hg; omega) _, h.hb, h.hg, h.ne⟩
  have := h.d.set_ i u
  rwa [List.setIfInBounds_toArray] at this
theorem Dd.nx {w W W' : World} {b g : Nat} {cs : List Value} {l : List UInt8} (h : Dd w W b g cs l) (k : Below W.heap.size W W') : Dd w W' b g cs l :=
  ⟨h.r.nx k, h.z.nx k, h.d.nx k, Go.Proofs.YthjpdaflgphbbaaDoor.nx h.bel k, h.hb, h.hg, h.ne⟩
theorem Dd.cell {w W : World} {b g : Nat} {cs : List Value} {l : List UInt8} (h : Dd w W b g cs l) (i : Nat) : W.cell? ⟨g, i, none⟩ = cs[i]? := by
  rw [h.d.cell, List.getElem?_toArray]
set_option maxHeartbeats 400000 in
theorem rfour_rd (w : World) (b : Nat) (l : List UInt8) (err : Int) (h : IsR w b l err) (he : err = 0 ∨ err = 2) :
    Calls Tryd.prog 47 #[.pointer (some ⟨b, 0, none⟩)] w fun e w' => e = .returned (.int .u32 (beN (rdN l err 4).1)) ∧ IsR w' b (rdN l err 4).2.1 (rdN l err 4).2.2 ∧ w.grownBy w' (some b) := by
  go_enter Tryd.func47, Tryd.ntmps47
  go_wp2_with fail
  refine (rnumber _ b l err 4 h he (by omega)).mono ?_
  rintro e w1 ⟨rfl, h1, h2⟩
  rw [show ((4 : Nat) : Int) = 4 from rfl] at *
  go_wp2
  go_ret
  exact ⟨rfl, h1, h2⟩
theorem rb1 (w : World) (b : Nat) (l : List UInt8) (h : IsR w b l 0) (hl : 1 ≤ l.length) :
    Calls Tryd.prog 45 #[.pointer (some ⟨b, 0, none⟩)] w fun e w' => e = .returned (.int .i64 (beN (l.take 1))) ∧ IsR w' b (l.drop 1) 0 ∧ w.grownBy w' (some b) := by
  have := rbyte_rd w b l 0 h (.inl rfl)
  rw [show rdN l 0 1 = (l.take 1, l.drop 1, 0) from rd_ok l 1 hl] at this
  exact this
theorem rb2 (w : World) (b : Nat) (l : List UInt8) (h : IsR w b l 0) (hl : 2 ≤ l.length) :
    Calls Tryd.prog 46 #[.pointer (some ⟨b, 0, none⟩)] w fun e w' => e = .returned (.int .i64 (beN (l.take 2))) ∧ IsR w' b (l.drop 2) 0 ∧ w.grownBy w' (some b) := by
  have := rtwo_rd w b l 0 h (.inl rfl)
  rw [show rdN l 0 2 = (l.take 2, l.drop 2, 0) from rd_ok l 2 hl] at this
  exact this
theorem rb4 (w : World) (b : Nat) (l : List UInt8) (h : IsR w b l 0) (hl : 4 ≤ l.length) :
    Calls Tryd.prog 47 #[.pointer (some ⟨b, 0, none⟩)] w fun e w' => e = .returned (.int .u32 (beN (l.take 4))) ∧ IsR w' b (l.drop 4) 0 ∧ w.grownBy w' (some b) := by
  have := rfour_rd w b l 0 h (.inl rfl)
  rw [show rdN l 0 4 = (l.take 4, l.drop 4, 0) from rd_ok l 4 hl] at this
  exact this
theorem rbr (w : World) (b : Nat) (l : List UInt8) (m : Nat) (x : Int) (h : IsR w b l 0) (hm : m ≤ l.length) (hx : x = m) :
    Calls Tryd.prog 48 #[.pointer (some ⟨b, 0, none⟩), .int .i64 x] w fun e w' => ∃ A' c', e = .returned (.slice A' (l.take m).length c') ∧ w'.ownsRow w.heap.size 5 1 (.slice A' (l.take m).length c') (l.take m).length (Lib.byteCells (l.take m)) ∧ IsR w' b (l.drop m) 0 ∧ w.grownBy w' (some b) := by
  subst hx
  have := rraw w b l 0 m h (.inl rfl)
  rw [show rdN l 0 m = (l.take m, l.drop m, 0) from rd_ok l m hm] at this
  refine this.mono ?_
  rintro e w' ⟨v, rfl, own, r, g⟩
  obtain ⟨A', c', rfl⟩ := own_slice own
  exact ⟨A', c', rfl, own, r, g⟩
theorem own_only {w w' : World} {base g : Nat} {e : TypeId} {size : Nat} {v : Value} {n : Nat} {xs : List Value} (h : w.ownsRow base e size v n xs) (k : w.grownBy w' (some g)) (hg : g < base) : w'.ownsRow base e size v n xs := by
  refine ⟨h.1, ?_⟩
  rcases h.2 with h0 | ⟨g', cap, cur, rfl, hg', hh, hr⟩
  · exact .inl h0
  · exact .inr ⟨g', cap, cur, rfl, hg', Blk.only hh k (by omega), hr⟩
theorem and_bit (B i : Nat) (hB : B < 65536) (hi : i < 16) : (bits .and .i64 (B : Int) ((2 ^ i : Nat) : Int) != 0) = decide (B / 2 ^ i % 2 = 1) := by
  have hp : 2 ^ i < 2 ^ 16 := Nat.pow_lt_pow_right (by omega) hi
  have h := (bits_nat .i64 62 (by decide) wraps_i64_62 B (2 ^ i) (by omega) (by omega)).1
  rw [h]
  have ht : B.testBit i = decide (B / 2 ^ i % 2 = 1) := Nat.testBit_eq_decide_div_mod_eq
  by_cases hb : B / 2 ^ i % 2 = 1
  · have h1 : (B &&& 2 ^ i).testBit i = true := by rw [Nat.testBit_and, ht, Nat.testBit_two_pow_self]; simp [hb]
    have h2 : B &&& 2 ^ i ≠ 0 := by intro e; rw [e] at h1; simp at h1
    simp only [hb, decide_true]
    rw [bne_iff_ne]; omega
  · have h2 : B &&& 2 ^ i = 0 := by
      apply Nat.eq_of_testBit_eq
      intro k
      rw [Nat.testBit_and, Nat.zero_testBit, Nat.testBit_two_pow]
      by_cases hk : i = k
      · subst hk; rw [ht]; simp [hb]
      · simp [hk]
    rw [h2]
    simp [hb]
theorem and13 (B : Nat) (hB : B < 65536) : bits .and .i64 (B : Int) 8191 = (B % 8192 : Nat) := by
  have := bits_mask .i64 62 (by decide) wraps_i64_62 13 (by decide) (B : Int) (by omega) (by omega)
  rw [show ((2 : Int) ^ 13 - 1) = 8191 from rfl] at this
  rw [this]; rfl
end Go.Proofs.YthjpdaflgphbbaaDoor
