/-
  A datagram's bytes: the plain rule, and the program's Encode by it.
-/
import Derived.Test.YtbhplleaokncpaaOctS
import Derived.Test.YtbhplleaokncpaaPmK
set_option linter.unusedVariables false
namespace Go.Proofs.Ytbhplleaokncpaa
open Go.RowKit

set_option maxHeartbeats 400000 in
theorem wfour (w : World) {B : Nat} (b : Nat) (l : List UInt8) (v : Int) (h : IsW w B b l) (hv0 : 0 ≤ v) (hv1 : v ≤ 4294967295) (hl : l.length ≤ 1099511627776) (hBw : B ≤ w.heap.size) :
    Calls Try.prog 60 #[.pointer (some ⟨b, 0, none⟩), .int .u32 v] w fun e w' => e = .returned (.tuple #[]) ∧ IsW w' B b (l ++ beB v.toNat 4) ∧ Below B w w' := by
  go_enter Try.func60, Try.ntmps60
  go_wp2_with fail
  refine (wlay _ _ l v 4 h hv0 hv1 (by omega) hl hBw).mono ?_
  rintro e w1 ⟨rfl, h1, h2⟩
  go_wp2
  go_end0
  exact ⟨rfl, h1, h2⟩
def pseB (fr to_ : Int) (n : Nat) : List UInt8 := beB fr.toNat 4 ++ beB to_.toNat 4 ++ beB 17 2 ++ beB n 2
theorem pseB_len (fr to_ : Int) (n : Nat) : (pseB fr to_ n).length = 12 := by simp [pseB, beB_len]
def udpB (frp top : Int) (l : List UInt8) (s : Nat) : List UInt8 := beB frp.toNat 2 ++ beB top.toNat 2 ++ beB (8 + l.length) 2 ++ beB s 2 ++ l
theorem udpB_len (frp top : Int) (l : List UInt8) (s : Nat) : (udpB frp top l s).length = 8 + l.length := by simp [udpB, beB_len]; omega
def sumU (fr to_ : Int) (b : List UInt8) : Nat := sumB (pseB fr to_ b.length ++ b)
theorem sumB_le (l : List UInt8) : sumB l ≤ 65535 := by unfold sumB; omega
def encS (fr frp to_ top : Int) (l : List UInt8) : Nat := if sumU fr to_ (udpB frp top l 0) = 0 then 65535 else sumU fr to_ (udpB frp top l 0)
theorem encS_le (fr frp to_ top : Int) (l : List UInt8) : encS fr frp to_ top l ≤ 65535 := by
  unfold encS; have := sumB_le (pseB fr to_ (udpB frp top l 0).length ++ udpB frp top l 0); unfold sumU; split <;> omega
set_option maxHeartbeats 800000 in
theorem usumC (fr to_ : Int) (A : Option Addr) (b : List UInt8) (n c : Nat) (w : World) (hb : Bytes w A b) (hn : n = b.length) (hl : b.length ≤ 70000) (f0 : 0 ≤ fr) (f1 : fr ≤ 4294967295) (t0 : 0 ≤ to_) (t1 : to_ ≤ 4294967295) :
    Calls Try.prog 47 #[.int .u32 fr, .int .u32 to_, .slice A n c] w fun e w' => e = .returned (.int .i64 (sumU fr to_ b)) ∧ Below w.heap.size w w' := by
  subst hn
  go_enter Try.func47, Try.ntmps47
  go_wp2_with fail
  refine (wfour _ (B := w.heap.size) w.heap.size [] fr (IsW.new _ rfl (Nat.le_refl _)) f0 f1 (by simp) (by simp)).mono ?_
  rintro e w1 ⟨rfl, hw1, hl1⟩
  have z1 := hl1.size
  simp at z1
  go_wp2_with fail
  refine (wfour _ _ _ to_ hw1 t0 t1 (by simp [beB_len]) (by omega)).mono ?_
  rintro e w2 ⟨rfl, hw2, hl2⟩
  have z2 := hl2.size
  go_wp2_with fail
  refine (wtwo _ _ _ 17 hw2 (by omega) (by omega) (by simp [beB_len]) (by omega)).mono ?_
  rintro e w3 ⟨rfl, hw3, hl3⟩
  have z3 := hl3.size
  go_wp2_with fail
  refine (wtwo _ _ _ (b.length : Int) hw3 (by omega) (by omega) (by simp [beB_len]) (by omega)).mono ?_
  rintro e w4 ⟨rfl, hw4, hl4⟩
  have z4 := hl4.size
  have bel : Below w.heap.size w w4 := ((((al (rf w) _).trans hl1).trans hl2).trans hl3).trans hl4
  go_wp2_with fail
  refine (wraw _ _ _ b A _ c hw4 (hb.nx bel) rfl (by simp [beB_len]; omega) (by omega)).mono ?_
  rintro e w5 ⟨rfl, hw5, hl5⟩
  go_wp2_with fail
  refine (wbytes _ _ _ hw5 (by simp [beB_len]; omega)).mono ?_
  rintro e w6 ⟨v, rfl, hr⟩
  obtain ⟨A6, n6, c6, rfl, hn6⟩ := hr.slice
  have h6 := hn6.out
  subst h6
  have hby := hr.bytes
  have he : ([] ++ beB fr.toNat 4 ++ beB to_.toNat 4 ++ beB (17 : Int).toNat 2 ++ beB (b.length : Int).toNat 2 ++ b) = pseB fr to_ b.length ++ b := rfl
  rw [he] at hby ⊢
  go_wp2_with fail
  refine (sumC A6 c6 _ _ _ hby (by rw [List.length_append]) (by rw [List.length_append, pseB_len]; omega)).mono ?_
  rintro e w7 ⟨rfl, rfl⟩
  go_wp2
  go_ret
  exact ⟨rfl, (bel.trans hl5).trans (hr.2.mono (by have := hl5.size; omega))⟩
set_option maxHeartbeats 1600000 in
theorem allC (d : Dg) (g : Nat) (A : Option Addr) (l : List UInt8) (c : Nat) (s : Int) (w : World) (hd : Blk w g 37 d.cs.toArray) (hda : d.data = .slice A l.length c) (hb : Bytes w A l) (hl : l.length ≤ 65507)
    (p0 : 0 ≤ d.frp) (p1 : d.frp ≤ 65535) (q0 : 0 ≤ d.top) (q1 : d.top ≤ 65535) (s0 : 0 ≤ s) (s1 : s ≤ 65535) :
    Calls Try.prog 43 #[.int .i64 s, .pointer (some ⟨g, 0, none⟩)] w fun e w' => ∃ v, e = .returned v ∧ IsRow w w' (udpB d.frp d.top l s.toNat) v := by
  have c1 : (w.alloc (.cells #[.slice none 0 0] 83)).cell? ⟨g, 1, none⟩ = some (.int .i64 d.frp) := (hd.alloc _).cell 1
  have hne : g ≠ w.heap.size := Nat.ne_of_lt hd.lt
  have HD := Lib.hid hd
  have HDA := Lib.hid hda
  have HL := Lib.hid hl
  have hg := hd.lt
  have HG := Lib.hid hg
  clear hd hda hg hl
  go_enter Try.func43, Try.ntmps43
  go_wp2_with fail
  refine (wtwo _ (B := w.heap.size) w.heap.size [] d.frp (IsW.new _ rfl (Nat.le_refl _)) p0 (by omega) (by simp) (by simp)).mono ?_
  rintro e w1 ⟨rfl, hw1, hl1⟩
  have z1 := hl1.size
  simp at z1
  have D1 := (HD.out.alloc (.cells #[.slice none 0 0] 83)).below hl1 HG.out
  have k3 : w1.cell? ⟨g, 3, none⟩ = some (.int .i64 d.top) := D1.cell 3
  clear hne
  go_wp2_with fail
  refine (wtwo _ _ _ d.top hw1 q0 (by omega) (by simp [beB_len]) (by omega)).mono ?_
  rintro e w2 ⟨rfl, hw2, hl2⟩
  have z2 := hl2.size
  have D2 := D1.below hl2 HG.out
  have k4 : w2.cell? ⟨g, 4, none⟩ = some (.slice A l.length c) := (D2.cell 4).trans (by show some d.data = _; rw [HDA.out])
  have hll : (l.length : Int) ≤ 65507 := by have := HL.out; omega
  go_wp2_with fail
  refine (wtwo _ _ _ (8 + (l.length : Int)) hw2 (by omega) (by omega) (by simp [beB_len]) (by omega)).mono ?_
  rintro e w3 ⟨rfl, hw3, hl3⟩
  have z3 := hl3.size
  have D3 := D2.below hl3 HG.out
  go_wp2_with fail
  refine (wtwo _ _ _ s hw3 s0 (by omega) (by simp [beB_len]) (by omega)).mono ?_
  rintro e w4 ⟨rfl, hw4, hl4⟩
  have z4 := hl4.size
  have D4 := D3.below hl4 HG.out
  have bel : Below w.heap.size w w4 := ((((al (rf w) _).trans hl1).trans hl2).trans hl3).trans hl4
  have m4 : w4.cell? ⟨g, 4, none⟩ = some (.slice A l.length c) := (D4.cell 4).trans (by show some d.data = _; rw [HDA.out])
  go_wp2_with fail
  refine (wraw _ _ _ l A _ c hw4 (hb.nx bel) rfl (by have := HL.out; simp [beB_len]; omega) (by omega)).mono ?_
  rintro e w5 ⟨rfl, hw5, hl5⟩
  go_wp2_with fail
  refine (wbytes _ _ _ hw5 (by have := HL.out; simp [beB_len]; omega)).mono ?_
  rintro e w6 ⟨v, rfl, hr⟩
  go_wp2
  go_ret
  have he : ([] ++ beB d.frp.toNat 2 ++ beB d.top.toNat 2 ++ beB (8 + (l.length : Int)).toNat 2 ++ beB s.toNat 2 ++ l) = udpB d.frp d.top l s.toNat := by
    unfold udpB; rw [show (8 + (l.length : Int)).toNat = 8 + l.length by omega]; rfl
  rw [he] at hr
  have bel5 := bel.trans hl5
  exact ⟨_, rfl, own_base hr.1 bel5.size, bel5.trans (hr.2.mono bel5.size)⟩
end Go.Proofs.Ytbhplleaokncpaa
