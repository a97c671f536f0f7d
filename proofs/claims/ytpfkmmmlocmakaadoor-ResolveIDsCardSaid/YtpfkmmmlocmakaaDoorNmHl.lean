/-
  Names: a question's head: the program's Encode$1, beside blocks that are kept. Printed by gen_octl.py.
-/
import Derived.Test.YtpfkmmmlocmakaaDoorNmHd
import Derived.Test.YtpfkmmmlocmakaaDoorOctL
set_option linter.unusedVariables false
namespace Go.Proofs.YtpfkmmmlocmakaaDoor
open Go.RowKit

set_option maxHeartbeats 800000 in
theorem nmEncL (w : World) {B : Nat} (b : Nat) (X : List Kp) (l : List UInt8) (s : ByteArray) (t c u : Int) (D : Value) (hs : s.size ≤ 1000000) (hm : MaxL w) (hN : isN s.data.toList = true) (t0 : 0 ≤ t) (t1 : t ≤ 65535) (c0 : 0 ≤ c) (c1 : c ≤ 65535)
    (h : IsL w B b X l) (hl : l.length ≤ 1099511600000) (hBw : B ≤ w.heap.size) :
    Calls Tryd.prog 37 #[.agg #[.string s, .int .i64 t, .int .i64 c, .int .i64 u, D], .pointer (some ⟨b, 0, none⟩)] w fun e w' => e = .returned (.tuple #[]) ∧ IsL w' B b X (l ++ hdB s.data.toList t c) ∧ Below B w w' := by
  have HN := Lib.hid hN
  have HM := Lib.hid hm
  have HW := Lib.hid h
  have B0 := Lib.hid (al (rf w) (.cells #[.string s, .int .i64 t, .int .i64 c, .int .i64 u, D] 48))
  have K0 := Lib.hid (h.box 48 #[.string s, .int .i64 t, .int .i64 c, .int .i64 u, D])
  have HP := Lib.hid (pk_lbs_len hN)
  clear hN hm h
  go_enter Tryd.func37, Tryd.ntmps37
  go_wp2_with fail
  refine (packC s _ hs (HM.out.nx B0.out)).mono ?_
  rintro e w1 (⟨hN, A, cc, rfl, own, b1⟩ | ⟨hN, rfl, b1⟩)
  · have K1 := Lib.hid (K0.out.nx b1)
    have BY := Lib.hid (Bytes.own own)
    have B1 : Hid (Below w.heap.size w w1) := B0.out.trans (b1.mono (by simp))
    have z1 := B1.out.size
    clear own hN b1 K0
    go_wp2_with fail
    refine (wrawL _ b _ l _ A _ cc K1.out BY.out rfl (by have := HP.out; omega) (by omega)).mono ?_
    rintro e w2 ⟨rfl, hk2, b2⟩
    have K2 := Lib.hid hk2
    have B2 : Hid (Below B w w2) := (B1.out.mono hBw).trans b2
    have z2 := B2.out.size
    have x2 := (hk2.blk (List.mem_cons_self ..)).cell 1
    simp only [List.getElem?_toArray, List.getElem?_cons_zero, List.getElem?_cons_succ] at x2
    clear hk2 b2
    go_wp2_with fail
    refine (wtwoL _ b _ _ t K2.out t0 (by omega) (by have := HP.out; simp; omega) (by omega)).mono ?_
    rintro e w3 ⟨rfl, hk3, b3⟩
    have K3 := Lib.hid hk3
    have B3 : Hid (Below B w w3) := B2.out.trans b3
    have z3 := B3.out.size
    have x3 := (hk3.blk (List.mem_cons_self ..)).cell 2
    simp only [List.getElem?_toArray, List.getElem?_cons_zero, List.getElem?_cons_succ] at x3
    clear hk3 b3 x2
    go_wp2_with fail
    refine (wtwoL _ b _ _ c K3.out c0 (by omega) (by have := HP.out; simp [beB_len]; omega) (by omega)).mono ?_
    rintro e w4 ⟨rfl, hk4, b4⟩
    have K4 := Lib.hid hk4
    have B4 : Hid (Below B w w4) := B3.out.trans b4
    clear hk4 b4 x3
    go_wp2
    go_end0
    refine ⟨rfl, ?_, B4.out⟩
    have := K4.out.drop
    simpa [hdB, List.append_assoc] using this
  · exact absurd (HN.out.symm.trans hN) (by simp)
end Go.Proofs.YtpfkmmmlocmakaaDoor
