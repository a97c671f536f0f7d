/-
  Tally: Add, and the case that is known.
-/
import Derived.Test.YtpfohcmificnmaaDoorTyC
set_option linter.unusedVariables false
namespace Go.Proofs.YtpfohcmificnmaaDoor
open Go.RowKit Go.Maps

theorem addOk (w : World) (B b : Nat) (cs : List Int) (n : Nat) (by_ : Int) (hn : n < 17) (h : IsB w B b cs) (h1 : 0 ≤ by_) (h2 : by_ ≤ 2147483647) (h3 : 0 ≤ cs.getD n 0) (h4 : cs.getD n 0 ≤ topN) :
    Calls Tryd.prog 9 #[.pointer (some ⟨b, 0, none⟩), .int .i64 n, .int .i64 by_] w fun e w' => e = .returned (.int .i64 0) ∧ IsB w' B b (cs.set n (sumT (cs.getD n 0) by_)) ∧ w.grownBy w' (some b) := by
  have n0 : (0 : Int) ≤ n := by omega
  have n1 : (n : Int) < 17 := by omega
  have HI := Lib.hid (isC n w true (by simp [n0, n1]))
  have HA := Lib.hid (addIn w B b cs n by_ hn h h1 h2 h3 h4)
  have b1 : ¬ by_ < 0 := by omega
  have b2 : ¬ (2147483647 : Int) < by_ := by omega
  clear h h3 h4
  have hnot : ∀ (x : Bool) (w : World), (Op.unary .not (.bool x)).run Tryd.prog w = .ok (.bool (!x)) w := fun _ _ => rfl
  go_enter Tryd.func9, Tryd.ntmps9
  go_wp2_with fail
  refine HI.out.mono ?_
  rintro e w1 ⟨rfl, rfl⟩
  go_wp2_with fail
  refine HA.out.mono ?_
  rintro e w1 ⟨rfl, h5, h6⟩
  go_wp2
  go_ret
  exact ⟨rfl, h5, h6⟩
theorem addBad (w : World) (b : Nat) (n by_ : Int) (h : n < 0 ∨ 17 ≤ n ∨ by_ < 0 ∨ 2147483647 < by_) :
    Calls Tryd.prog 9 #[.pointer (some ⟨b, 0, none⟩), .int .i64 n, .int .i64 by_] w fun e w' => e = .returned (.int .i64 1) ∧ w' = w := by
  have hnot : ∀ (x : Bool) (w : World), (Op.unary .not (.bool x)).run Tryd.prog w = .ok (.bool (!x)) w := fun _ _ => rfl
  by_cases hi : 0 ≤ n ∧ n < 17
  · have HI := Lib.hid (isC n w true (by simp [hi.1, hi.2]))
    by_cases hb : by_ < 0
    · clear h
      go_enter Tryd.func9, Tryd.ntmps9
      go_wp2_with fail
      refine HI.out.mono ?_
      rintro e w1 ⟨rfl, rfl⟩
      go_wp2
      go_ret
      exact ⟨rfl, rfl⟩
    · have hb2 : (2147483647 : Int) < by_ := by omega
      clear h
      go_enter Tryd.func9, Tryd.ntmps9
      go_wp2_with fail
      refine HI.out.mono ?_
      rintro e w1 ⟨rfl, rfl⟩
      go_wp2
      go_ret
      exact ⟨rfl, rfl⟩
  · have HI := Lib.hid (isC n w false (by simp; omega))
    clear h hi
    go_enter Tryd.func9, Tryd.ntmps9
    go_wp2_with fail
    refine HI.out.mono ?_
    rintro e w1 ⟨rfl, rfl⟩
    go_wp2
    go_ret
    exact ⟨rfl, rfl⟩
def zB : List Int := List.replicate 17 0
def zBv : List Value := bCs zB 0 (.map none) (.slice none 0 0)
theorem newB (w : World) : IsB (w.alloc (.cells zBv.toArray 44)) w.heap.size w.heap.size zB := ⟨rfl, Nat.le_refl _, .inl (Blk.new w _ _)⟩
theorem MaxL.pos {w : World} (h : MaxL w) : 0 < w.heap.size := by
  obtain ⟨m, hm⟩ := h
  rcases Nat.lt_or_ge 0 w.heap.size with h' | h'
  · exact h'
  · simp [World.cell?, Array.getElem?_eq_none h'] at hm
theorem zB_get (n : Nat) : zB.getD n 0 = 0 := by
  unfold zB
  rw [List.getD_eq_getElem?_getD, List.getElem?_replicate]
  split <;> rfl
set_option maxRecDepth 10000 in
theorem knownC (w : World) (hm : MaxL w) : Calls Tryd.prog 8 #[] w fun e w' => e = .returned (.bool true) ∧ Below w.heap.size w w' := by
  have hp := hm.pos
  have HM := Lib.hid (hm.nx (al (rf w) (.cells zBv.toArray 44)))
  have HN := Lib.hid (newB w)
  have HA := Lib.hid (addOk _ w.heap.size w.heap.size zB 3 5 (by omega) HN.out (by omega) (by omega) (by rw [zB_get]; omega) (by rw [zB_get]; decide))
  have HO0 : Hid (Below w.heap.size w (w.alloc (.cells zBv.toArray 44))) := al (rf w) _
  clear hm
  go_enter Tryd.func8, Tryd.ntmps8
  go_wp2_with fail
  refine HA.out.mono ?_
  rintro e w1 ⟨rfl, i1, g1⟩
  have HB1 := Lib.hid i1
  have HM1 := Lib.hid (HM.out.only g1 hp)
  have O1 := Lib.hid (HO0.out.trans (below_only g1 (Nat.le_refl _) HO0.out.size))
  have hget := getC w1 w.heap.size w.heap.size _ 3 (by omega) i1
  have e5 : (zB.set 3 (sumT (zB.getD 3 0) 5)).getD 3 0 = 5 := by decide
  rw [e5] at hget
  have HG := Lib.hid hget
  clear i1 g1 hget e5
  go_wp2_with fail
  refine HG.out.mono ?_
  rintro e w2 ⟨rfl, rfl⟩
  have hnum := numC w2 w.heap.size w.heap.size _ ⟨#[117, 100, 112, 32, 105, 110]⟩ (by decide) HB1.out HM1.out hp O1.out.size
  have e6 : numD (⟨#[117, 100, 112, 32, 105, 110]⟩ : ByteArray).data.toList = 11 := by decide +kernel
  rw [e6] at hnum
  have HU := Lib.hid hnum
  clear hnum e6
  go_wp2_with fail
  refine HU.out.mono ?_
  rintro e w3 ⟨rfl, i3, g3⟩
  have HB3 := Lib.hid i3
  have HM3 := Lib.hid (HM1.out.only g3 hp)
  have O3 := Lib.hid (O1.out.trans (below_only g3 (Nat.le_refl _) O1.out.size))
  have HNA := Lib.hid (nameC w3 w.heap.size w.heap.size _ 0 (by omega) HB3.out HM3.out hp O3.out.size)
  clear i3 g3
  go_wp2_with fail
  refine HNA.out.mono ?_
  rintro e w4 ⟨rfl, i4, g4⟩
  have O4 := Lib.hid (O3.out.trans (below_only g4 (Nat.le_refl _) O3.out.size))
  rw [show bsAt 0 = ⟨#[102, 114, 97, 109, 101, 115, 32, 105, 110]⟩ from rfl]
  clear i4 g4
  go_wp2
  go_ret
  exact ⟨rfl, O4.out⟩
end Go.Proofs.YtpfohcmificnmaaDoor
