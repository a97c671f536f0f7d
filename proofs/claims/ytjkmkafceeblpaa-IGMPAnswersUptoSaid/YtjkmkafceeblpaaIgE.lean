/-
  Groups: a message's bytes: the program's Encode, the reference's.
-/
import Derived.Test.YtjkmkafceeblpaaOctS
import Derived.Test.YtjkmkafceeblpaaMem
set_option linter.unusedVariables false
namespace Go.Proofs.Ytjkmkafceeblpaa
open Go.RowKit

theorem ig_byte (w : World) {B : Nat} (b : Nat) (l : List UInt8) (v : Int) (h : IsW w B b l) (hv0 : 0 ≤ v) (hv1 : v ≤ 4294967295) (hl : l.length ≤ 1099511627776) (hBw : B ≤ w.heap.size) :
    Calls Try.prog 38 #[.pointer (some ⟨b, 0, none⟩), .int .i64 v] w fun e w' => e = .returned (.tuple #[]) ∧ IsW w' B b (l ++ beB v.toNat 1) ∧ Below B w w' := by
  go_enter Try.func38, Try.ntmps38
  go_wp2_with fail
  refine (wlay _ _ l v 1 h hv0 hv1 (by omega) hl hBw).mono ?_
  rintro e w1 ⟨rfl, h1, h2⟩
  go_wp2
  go_end0
  exact ⟨rfl, h1, h2⟩
theorem ig_four (w : World) {B : Nat} (b : Nat) (l : List UInt8) (v : Int) (h : IsW w B b l) (hv0 : 0 ≤ v) (hv1 : v ≤ 4294967295) (hl : l.length ≤ 1099511627776) (hBw : B ≤ w.heap.size) :
    Calls Try.prog 40 #[.pointer (some ⟨b, 0, none⟩), .int .u32 v] w fun e w' => e = .returned (.tuple #[]) ∧ IsW w' B b (l ++ beB v.toNat 4) ∧ Below B w w' := by
  go_enter Try.func40, Try.ntmps40
  go_wp2_with fail
  refine (wlay _ _ l v 4 h hv0 hv1 (by omega) hl hBw).mono ?_
  rintro e w1 ⟨rfl, h1, h2⟩
  go_wp2
  go_end0
  exact ⟨rfl, h1, h2⟩
def igB (ty mx gr : Int) (s : Nat) : List UInt8 := beB ty.toNat 1 ++ beB mx.toNat 1 ++ beB s 2 ++ beB gr.toNat 4
theorem igB_len (ty mx gr : Int) (s : Nat) : (igB ty mx gr s).length = 8 := by simp [igB, beB_len]
set_option maxHeartbeats 800000 in
theorem igEnc1 (w : World) (x : Nat) (ty mx gr : Int) (s : Nat) (hx : Blk w x 27 #[.int .i64 ty, .int .i64 mx, .int .u32 gr]) (t0 : 0 ≤ ty) (t1 : ty ≤ 255) (m0 : 0 ≤ mx) (m1 : mx ≤ 255) (g0 : 0 ≤ gr) (g1 : gr ≤ 4294967295) (s1 : s ≤ 65535) :
    Calls Try.prog 37 #[.int .i64 s, .pointer (some ⟨x, 0, none⟩)] w fun e w' => ∃ A c, e = .returned (.slice A 8 c) ∧ Bytes w' A (igB ty mx gr s) ∧ w'.ownsRow w.heap.size 5 1 (.slice A 8 c) 8 (Lib.byteCells (igB ty mx gr s)) ∧ Below w.heap.size w w' := by
  have HX := Lib.hid hx
  have zx := hx.lt
  clear hx
  have B0 := al (rf w) (.cells #[.slice none 0 0] 83)
  have c0 : (w.alloc (.cells #[.slice none 0 0] 83)).cell? ⟨x, 0, none⟩ = some (.int .i64 ty) := (HX.out.nx B0).cell 0
  go_enter Try.func37, Try.ntmps37
  go_wp2_with fail
  refine (ig_byte _ (B := w.heap.size) w.heap.size [] ty (IsW.new _ rfl (Nat.le_refl _)) t0 (by omega) (by simp) (by simp)).mono ?_
  rintro e w1 ⟨rfl, hw1, hl1⟩
  have B1 := Lib.hid (B0.trans hl1)
  have z1 : w.heap.size ≤ w1.heap.size := B1.out.size
  have c1 : w1.cell? ⟨x, 1, none⟩ = some (.int .i64 mx) := (HX.out.nx B1.out).cell 1
  clear c0 hl1
  go_wp2_with fail
  refine (ig_byte _ _ _ mx hw1 m0 (by omega) (by simp [beB_len]) z1).mono ?_
  rintro e w2 ⟨rfl, hw2, hl2⟩
  have B2 := Lib.hid (B1.out.trans hl2)
  have z2 : w.heap.size ≤ w2.heap.size := B2.out.size
  clear c1 hl2
  go_wp2_with fail
  refine (wtwo _ _ _ (s : Int) hw2 (by omega) (by omega) (by simp [beB_len]) z2).mono ?_
  rintro e w3 ⟨rfl, hw3, hl3⟩
  have B3 := Lib.hid (B2.out.trans hl3)
  have z3 : w.heap.size ≤ w3.heap.size := B3.out.size
  have c3 : w3.cell? ⟨x, 2, none⟩ = some (.int .u32 gr) := (HX.out.nx B3.out).cell 2
  clear hl3
  go_wp2_with fail
  refine (ig_four _ _ _ gr hw3 g0 g1 (by simp [beB_len]) z3).mono ?_
  rintro e w4 ⟨rfl, hw4, hl4⟩
  have B4 := Lib.hid (B3.out.trans hl4)
  clear c3 hl4
  go_wp2_with fail
  refine (wbytes _ _ _ hw4 (by simp [beB_len])).mono ?_
  rintro e w5 ⟨v, rfl, hr⟩
  obtain ⟨A5, n5, c5, rfl, hn5⟩ := hr.slice
  have e5 : [] ++ beB ty.toNat 1 ++ beB mx.toNat 1 ++ beB ((s : Int)).toNat 2 ++ beB gr.toNat 4 = igB ty mx gr s := by simp [igB]
  rw [e5] at hr hn5
  obtain rfl : n5 = 8 := hn5.out.trans (igB_len _ _ _ _)
  have HR := Lib.hid hr
  clear hr hn5 e5
  go_wp2
  go_ret
  have h1 := HR.out.1
  have h2 : (igB ty mx gr s).length = 8 := igB_len _ _ _ _
  rw [h2] at h1
  refine ⟨A5, c5, rfl, ?_, own_base h1 B4.out.size, nx B4.out HR.out.2⟩
  have h3 := Reads.of_own h1
  unfold Bytes
  rw [h2]; exact h3
def igS (ty mx gr : Int) : Nat := sumB (igB ty mx gr 0)
theorem igS_le (ty mx gr : Int) : igS ty mx gr ≤ 65535 := by unfold igS sumB; omega
def igL (ty mx gr : Int) : List UInt8 := igB ty mx gr (igS ty mx gr)
theorem igL_len (ty mx gr : Int) : (igL ty mx gr).length = 8 := igB_len _ _ _ _
set_option maxHeartbeats 800000 in
theorem igEncBad (w : World) (ty mx gr : Int) (h : ty < 0 ∨ 255 < ty ∨ mx < 0 ∨ 255 < mx) :
    Calls Try.prog 17 #[.agg #[.int .i64 ty, .int .i64 mx, .int .u32 gr]] w fun e w' => e = .returned (.tuple #[.slice none 0 0, .int .i64 1]) ∧ Below w.heap.size w w' := by
  have HH := Lib.hid h
  clear h
  by_cases h1 : ty < 0
  · go_enter Try.func17, Try.ntmps17
    go_wp2
    refine bodyPost_ret (results_tmp2 rfl _ _ _) rfl ?_
    exact ⟨rfl, al (rf w) _⟩
  by_cases h2 : 255 < ty
  · go_enter Try.func17, Try.ntmps17
    go_wp2
    refine bodyPost_ret (results_tmp2 rfl _ _ _) rfl ?_
    exact ⟨rfl, al (rf w) _⟩
  by_cases h3 : mx < 0
  · go_enter Try.func17, Try.ntmps17
    go_wp2
    refine bodyPost_ret (results_tmp2 rfl _ _ _) rfl ?_
    exact ⟨rfl, al (rf w) _⟩
  have h4 : 255 < mx := by have := HH.out; omega
  go_enter Try.func17, Try.ntmps17
  go_wp2
  refine bodyPost_ret (results_tmp2 rfl _ _ _) rfl ?_
  exact ⟨rfl, al (rf w) _⟩
set_option maxHeartbeats 800000 in
theorem igEncOk (w : World) (ty mx gr : Int) (t0 : 0 ≤ ty) (t1 : ty ≤ 255) (m0 : 0 ≤ mx) (m1 : mx ≤ 255) (g0 : 0 ≤ gr) (g1 : gr ≤ 4294967295) :
    Calls Try.prog 17 #[.agg #[.int .i64 ty, .int .i64 mx, .int .u32 gr]] w fun e w' => ∃ A c, e = .returned (.tuple #[.slice A 8 c, .int .i64 0]) ∧ Bytes w' A (igL ty mx gr) ∧ w'.ownsRow w.heap.size 5 1 (.slice A 8 c) 8 (Lib.byteCells (igL ty mx gr)) ∧ Below w.heap.size w w' := by
  have hmf : ∀ (fn : Fn) (first cap : Array Value) (w : World), (Instr.makeFunc fn first cap).run Try.prog w = .ok (.func fn first cap) w := fun _ _ _ _ => rfl
  have BX := Lib.hid (Blk.new w 27 #[.int .i64 ty, .int .i64 mx, .int .u32 gr])
  go_enter Try.func17, Try.ntmps17
  go_wp2_with fail
  refine (igEnc1 _ w.heap.size ty mx gr 0 BX.out t0 t1 m0 m1 g0 g1 (by omega)).mono ?_
  rintro e w1 ⟨A1, c1, rfl, by1, own1, b1⟩
  have BX1 := Lib.hid (BX.out.nx b1)
  go_wp2_with fail
  refine (sumC A1 c1 (igB ty mx gr 0) 8 _ by1 (igB_len _ _ _ _).symm (by rw [igB_len]; omega)).mono ?_
  rintro e w2 ⟨rfl, rfl⟩
  go_wp2_with fail
  refine (igEnc1 _ w.heap.size ty mx gr (igS ty mx gr) BX1.out t0 t1 m0 m1 g0 g1 (igS_le _ _ _)).mono ?_
  rintro e w3 ⟨A3, c3, rfl, by3, own3, b3⟩
  have z0 : w.heap.size ≤ w2.heap.size := by have := b1.size; simp at this; omega
  go_wp2
  refine bodyPost_ret (results_tmp2 rfl _ _ _) rfl ?_
  exact ⟨A3, c3, rfl, by3, own_base own3 z0, nx (nx (al (rf w) _) b1) b3⟩
end Go.Proofs.Ytjkmkafceeblpaa
