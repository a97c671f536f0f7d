/-
  Ports: small contracts for finding who hears.
-/
import Derived.Test.YtbhplleaokncpaaPm3
set_option linter.unusedVariables false
namespace Go.Proofs.Ytbhplleaokncpaa
open Go.RowKit Go.Maps

def oneI (b : Bool) : Int := if b then 1 else 0
def cmpI (a b : Int) : Int := if a < b then -1 else if b < a then 1 else 0
def orI (a b c : Int) : Int := if a ≠ 0 then a else if b ≠ 0 then b else c
theorem oneC (b : Bool) (w : World) : Calls Try.prog 35 #[.bool b] w fun e w' => e = .returned (.int .i64 (oneI b)) ∧ w' = w := by
  cases b
  all_goals
    go_enter Try.func35, Try.ntmps35
    go_wp2
    go_ret
    exact ⟨rfl, rfl⟩
theorem nanC (a : Int) (w : World) : Calls Try.prog 55 #[.int .i64 a] w fun e w' => e = .returned (.bool false) ∧ w' = w := by
  have q : ((a : Int) != a) = false := by simp
  go_enter Try.func55, Try.ntmps55
  go_wp2
  go_ret
  exact ⟨rfl, rfl⟩
theorem cmpC (a b : Int) (w : World) : Calls Try.prog 34 #[.int .i64 a, .int .i64 b] w fun e w' => e = .returned (.int .i64 (cmpI a b)) ∧ w' = w := by
  unfold cmpI
  by_cases h1 : a < b
  · rw [if_pos h1]
    go_enter Try.func34, Try.ntmps34
    go_wp2_with fail
    refine (nanC a _).mono ?_
    rintro e w1 ⟨rfl, rfl⟩
    go_wp2_with fail
    refine (nanC b _).mono ?_
    rintro e w1 ⟨rfl, rfl⟩
    go_wp2
    go_ret
    exact ⟨rfl, rfl⟩
  · rw [if_neg h1]
    by_cases h2 : b < a
    · rw [if_pos h2]
      go_enter Try.func34, Try.ntmps34
      go_wp2_with fail
      refine (nanC a _).mono ?_
      rintro e w1 ⟨rfl, rfl⟩
      go_wp2_with fail
      refine (nanC b _).mono ?_
      rintro e w1 ⟨rfl, rfl⟩
      go_wp2
      go_ret
      exact ⟨rfl, rfl⟩
    · rw [if_neg h2]
      go_enter Try.func34, Try.ntmps34
      go_wp2_with fail
      refine (nanC a _).mono ?_
      rintro e w1 ⟨rfl, rfl⟩
      go_wp2_with fail
      refine (nanC b _).mono ?_
      rintro e w1 ⟨rfl, rfl⟩
      go_wp2
      go_ret
      exact ⟨rfl, rfl⟩
theorem orC (a b c : Int) (g : Nat) (w : World) (h : Blk w g 3 #[.int .i64 a, .int .i64 b, .int .i64 c]) : Calls Try.prog 33 #[.slice (some ⟨g, 0, none⟩) 3 3] w fun e w' => e = .returned (.int .i64 (orI a b c)) ∧ w' = w := by
  have c0 : w.cell? ⟨g, 0, none⟩ = some (.int .i64 a) := h.cell 0
  have c1 : w.cell? ⟨g, 1, none⟩ = some (.int .i64 b) := h.cell 1
  have c2 : w.cell? ⟨g, 2, none⟩ = some (.int .i64 c) := h.cell 2
  unfold orI
  clear h
  by_cases h1 : a ≠ 0
  · rw [if_pos h1]
    have q1 : ((a : Int) != 0) = true := by rw [bne_iff_ne]; exact h1
    clear h1
    go_enter Try.func33, Try.ntmps33
    go_wp2
    refine wp_loop_rounds 1 ?_
    rw [rounds_succ]
    go_wp2
    go_ret
    exact ⟨rfl, rfl⟩
  · rw [if_neg h1]
    have q1 : ((a : Int) != 0) = false := by rw [bne_eq_false_iff_eq]; exact Decidable.not_not.1 h1
    clear h1
    by_cases h2 : b ≠ 0
    · rw [if_pos h2]
      have q2 : ((b : Int) != 0) = true := by rw [bne_iff_ne]; exact h2
      clear h2
      go_enter Try.func33, Try.ntmps33
      go_wp2
      refine wp_loop_rounds 2 ?_
      rw [rounds_succ]
      go_wp2
      rw [rounds_succ]
      go_wp2
      go_ret
      exact ⟨rfl, rfl⟩
    · rw [if_neg h2]
      have q2 : ((b : Int) != 0) = false := by rw [bne_eq_false_iff_eq]; exact Decidable.not_not.1 h2
      clear h2
      by_cases h3 : c ≠ 0
      · have q3 : ((c : Int) != 0) = true := by rw [bne_iff_ne]; exact h3
        clear h3
        go_enter Try.func33, Try.ntmps33
        go_wp2
        refine wp_loop_rounds 3 ?_
        rw [rounds_succ]
        go_wp2
        rw [rounds_succ]
        go_wp2
        rw [rounds_succ]
        go_wp2
        go_ret
        exact ⟨rfl, rfl⟩
      · have q3 : ((c : Int) != 0) = false := by rw [bne_eq_false_iff_eq]; exact Decidable.not_not.1 h3
        have e3 : c = 0 := Decidable.not_not.1 h3
        subst e3
        clear h3 q3
        go_enter Try.func33, Try.ntmps33
        go_wp2
        refine wp_loop_rounds 4 ?_
        rw [rounds_succ]
        go_wp2
        rw [rounds_succ]
        go_wp2
        rw [rounds_succ]
        go_wp2
        rw [rounds_succ]
        go_wp2
        go_ret
        exact ⟨rfl, rfl⟩
structure Dg where
  (fr frp to_ top : Int)
  (data : Value)
def Dg.cs (d : Dg) : List Value := [.int .u32 d.fr, .int .i64 d.frp, .int .u32 d.to_, .int .i64 d.top, d.data]
def hearsR (p : Pl) (d : Dg) : Bool := p.port == d.top && (p.a == d.to_ || p.a == 0) && (!p.alone || p.fr == d.fr && p.of == d.frp)
set_option maxRecDepth 100000 in
set_option maxHeartbeats 1600000 in
theorem hearsC (g : Nat) (p : Pl) (d : Dg) (w : World) (h : Blk w g 75 p.cs.toArray) :
    Calls Try.prog 36 #[.pointer (some ⟨g, 0, none⟩), .agg d.cs.toArray] w fun e w' => e = .returned (.bool (hearsR p d)) ∧ Below w.heap.size w w' := by
  have hg := h.lt
  have hne : g ≠ w.heap.size := Nat.ne_of_lt hg
  have h' := h.alloc (.cells d.cs.toArray 37)
  have c0 : (w.alloc (.cells d.cs.toArray 37)).cell? ⟨g, 0, none⟩ = some (.int .u32 p.a) := h'.cell 0
  have c1 : (w.alloc (.cells d.cs.toArray 37)).cell? ⟨g, 1, none⟩ = some (.int .i64 p.port) := h'.cell 1
  have c2 : (w.alloc (.cells d.cs.toArray 37)).cell? ⟨g, 2, none⟩ = some (.bool p.alone) := h'.cell 2
  have c3 : (w.alloc (.cells d.cs.toArray 37)).cell? ⟨g, 3, none⟩ = some (.int .u32 p.fr) := h'.cell 3
  have c4 : (w.alloc (.cells d.cs.toArray 37)).cell? ⟨g, 4, none⟩ = some (.int .i64 p.of) := h'.cell 4
  have d0 : (w.alloc (.cells d.cs.toArray 37)).cell? ⟨w.heap.size, 0, none⟩ = some (.int .u32 d.fr) := (Blk.new w 37 d.cs.toArray).cell 0
  have d1 : (w.alloc (.cells d.cs.toArray 37)).cell? ⟨w.heap.size, 1, none⟩ = some (.int .i64 d.frp) := (Blk.new w 37 d.cs.toArray).cell 1
  have d2 : (w.alloc (.cells d.cs.toArray 37)).cell? ⟨w.heap.size, 2, none⟩ = some (.int .u32 d.to_) := (Blk.new w 37 d.cs.toArray).cell 2
  have d3 : (w.alloc (.cells d.cs.toArray 37)).cell? ⟨w.heap.size, 3, none⟩ = some (.int .i64 d.top) := (Blk.new w 37 d.cs.toArray).cell 3
  have bw := Lib.hid (al (rf w) (.cells d.cs.toArray 37))
  clear hg h h' hne
  obtain ⟨W, hW⟩ : ∃ W, W = w.alloc (.cells d.cs.toArray 37) := ⟨_, rfl⟩
  rw [← hW] at c0 c1 c2 c3 c4 d0 d1 d2 d3 bw
  have HW := Lib.hid hW; clear hW
  have fin : ∀ (b : Bool) (n : Nat), hearsR p d = b → (Ending.returned (.bool b) = .returned (.bool (hearsR p d)) ∧ Below w.heap.size w (W.drewN n)) := fun b n e => ⟨by rw [e], dn bw.out n⟩
  have FIN := Lib.hid fin; clear fin bw
  go_enter Try.func36, Try.ntmps36
  go_wp2
  change Code.wp _ _ _ _ (w.alloc (.cells d.cs.toArray 37))
  rw [← HW.out]
  cases b1 : ((p.port : Int) == d.top)
  · go_quiet (fail)
    go_wp2
    go_ret
    exact FIN.out _ _ (by unfold hearsR; rw [b1]; simp)
  · cases b2 : ((p.a : Int) == d.to_)
    · cases b3 : ((p.a : Int) == 0)
      · go_quiet (fail)
        go_wp2
        go_ret
        exact FIN.out _ _ (by unfold hearsR; rw [b1, b2, b3]; simp)
      · cases b4 : p.alone
        · go_quiet (fail)
          go_wp2
          go_ret
          exact FIN.out _ _ (by unfold hearsR; rw [b1, b2, b3, b4]; simp)
        · cases b5 : ((p.fr : Int) == d.fr)
          · go_quiet (fail)
            go_wp2
            go_ret
            exact FIN.out _ _ (by unfold hearsR; rw [b1, b2, b3, b4, b5]; simp)
          · cases b6 : ((p.of : Int) == d.frp)
            · go_quiet (fail)
              go_wp2
              go_ret
              exact FIN.out _ _ (by unfold hearsR; rw [b1, b2, b3, b4, b5, b6]; simp)
            · go_quiet (fail)
              go_wp2
              go_ret
              exact FIN.out _ _ (by unfold hearsR; rw [b1, b2, b3, b4, b5, b6]; simp)
    · cases b4 : p.alone
      · go_quiet (fail)
        go_wp2
        go_ret
        exact FIN.out _ _ (by unfold hearsR; rw [b1, b2, b4]; simp)
      · cases b5 : ((p.fr : Int) == d.fr)
        · go_quiet (fail)
          go_wp2
          go_ret
          exact FIN.out _ _ (by unfold hearsR; rw [b1, b2, b4, b5]; simp)
        · cases b6 : ((p.of : Int) == d.frp)
          · go_quiet (fail)
            go_wp2
            go_ret
            exact FIN.out _ _ (by unfold hearsR; rw [b1, b2, b4, b5, b6]; simp)
          · go_quiet (fail)
            go_wp2
            go_ret
            exact FIN.out _ _ (by unfold hearsR; rw [b1, b2, b4, b5, b6]; simp)
end Go.Proofs.Ytbhplleaokncpaa
