/-
  Ports: the reference's worth and Find.
-/
import Derived.Test.YtbhplleaokncpaaPrU
set_option linter.unusedVariables false
namespace Go.Proofs.Ytbhplleaokncpaa
open Go.RowKit

def worthR (q : Rp) (d : Dg) : Int :=
  if q.port ≠ d.top ∨ (q.a ≠ d.to_ ∧ q.a ≠ 0) then -1 else if q.pp ≠ 0 ∧ (q.peer ≠ d.fr ∨ q.pp ≠ d.frp) then -1 else (if q.pp ≠ 0 then 2 else 0) + (if q.a = d.to_ ∧ q.a ≠ 0 then 1 else 0)
set_option maxRecDepth 100000 in
set_option maxHeartbeats 3200000 in
theorem worthC (q : Rp) (d : Dg) (w : World) : Calls Try.prog 58 #[.agg q.cs.toArray, .agg d.cs.toArray] w fun e w' => e = .returned (.int .i64 (worthR q d)) ∧ Below w.heap.size w w' := by
  unfold Rp.cs Dg.cs
  by_cases hp1 : q.port = d.top
  · have rp1a : ((q.port : Int) == d.top) = true := by rw [beq_iff_eq]; exact hp1
    have rp1b : ((q.port : Int) != d.top) = false := by rw [bne_eq_false_iff_eq]; exact hp1
    by_cases hp2 : q.a = d.to_
    · have rp2a : ((q.a : Int) == d.to_) = true := by rw [beq_iff_eq]; exact hp2
      have rp2b : ((q.a : Int) != d.to_) = false := by rw [bne_eq_false_iff_eq]; exact hp2
      by_cases hp4 : q.pp = 0
      · have rp4a : ((q.pp : Int) == 0) = true := by rw [beq_iff_eq]; exact hp4
        have rp4b : ((q.pp : Int) != 0) = false := by rw [bne_eq_false_iff_eq]; exact hp4
        by_cases hp3 : q.a = 0
        · have rp3a : ((q.a : Int) == 0) = true := by rw [beq_iff_eq]; exact hp3
          have rp3b : ((q.a : Int) != 0) = false := by rw [bne_eq_false_iff_eq]; exact hp3
          have HR : Hid (worthR q d = 0) := by
            show _ = _
            unfold worthR
            (repeat' split) <;> omega
          clear hp1 hp2 hp4 hp3
          go_enter Try.func58, Try.ntmps58
          go_wp2
          go_ret
          exact ⟨by rw [HR.out]; rfl, al (al (rf w) _) _⟩
        · have rp3a : ((q.a : Int) == 0) = false := by rw [beq_eq_false_iff_ne]; exact hp3
          have rp3b : ((q.a : Int) != 0) = true := by rw [bne_iff_ne]; exact hp3
          have HR : Hid (worthR q d = 1) := by
            show _ = _
            unfold worthR
            (repeat' split) <;> omega
          clear hp1 hp2 hp4 hp3
          go_enter Try.func58, Try.ntmps58
          go_wp2
          go_ret
          exact ⟨by rw [HR.out]; rfl, al (al (rf w) _) _⟩
      · have rp4a : ((q.pp : Int) == 0) = false := by rw [beq_eq_false_iff_ne]; exact hp4
        have rp4b : ((q.pp : Int) != 0) = true := by rw [bne_iff_ne]; exact hp4
        by_cases hp5 : q.peer = d.fr
        · have rp5a : ((q.peer : Int) == d.fr) = true := by rw [beq_iff_eq]; exact hp5
          have rp5b : ((q.peer : Int) != d.fr) = false := by rw [bne_eq_false_iff_eq]; exact hp5
          by_cases hp6 : q.pp = d.frp
          · have rp6a : ((q.pp : Int) == d.frp) = true := by rw [beq_iff_eq]; exact hp6
            have rp6b : ((q.pp : Int) != d.frp) = false := by rw [bne_eq_false_iff_eq]; exact hp6
            by_cases hp3 : q.a = 0
            · have rp3a : ((q.a : Int) == 0) = true := by rw [beq_iff_eq]; exact hp3
              have rp3b : ((q.a : Int) != 0) = false := by rw [bne_eq_false_iff_eq]; exact hp3
              have HR : Hid (worthR q d = 2) := by
                show _ = _
                unfold worthR
                (repeat' split) <;> omega
              clear hp1 hp2 hp4 hp5 hp6 hp3
              go_enter Try.func58, Try.ntmps58
              go_wp2
              go_ret
              exact ⟨by rw [HR.out]; rfl, al (al (rf w) _) _⟩
            · have rp3a : ((q.a : Int) == 0) = false := by rw [beq_eq_false_iff_ne]; exact hp3
              have rp3b : ((q.a : Int) != 0) = true := by rw [bne_iff_ne]; exact hp3
              have HR : Hid (worthR q d = 3) := by
                show _ = _
                unfold worthR
                (repeat' split) <;> omega
              clear hp1 hp2 hp4 hp5 hp6 hp3
              go_enter Try.func58, Try.ntmps58
              go_wp2
              go_ret
              exact ⟨by rw [HR.out]; rfl, al (al (rf w) _) _⟩
          · have rp6a : ((q.pp : Int) == d.frp) = false := by rw [beq_eq_false_iff_ne]; exact hp6
            have rp6b : ((q.pp : Int) != d.frp) = true := by rw [bne_iff_ne]; exact hp6
            have HR : Hid (worthR q d = -1) := by
              show _ = _
              unfold worthR
              (repeat' split) <;> omega
            clear hp1 hp2 hp4 hp5 hp6
            go_enter Try.func58, Try.ntmps58
            go_wp2
            go_ret
            exact ⟨by rw [HR.out]; rfl, al (al (rf w) _) _⟩
        · have rp5a : ((q.peer : Int) == d.fr) = false := by rw [beq_eq_false_iff_ne]; exact hp5
          have rp5b : ((q.peer : Int) != d.fr) = true := by rw [bne_iff_ne]; exact hp5
          have HR : Hid (worthR q d = -1) := by
            show _ = _
            unfold worthR
            (repeat' split) <;> omega
          clear hp1 hp2 hp4 hp5
          go_enter Try.func58, Try.ntmps58
          go_wp2
          go_ret
          exact ⟨by rw [HR.out]; rfl, al (al (rf w) _) _⟩
    · have rp2a : ((q.a : Int) == d.to_) = false := by rw [beq_eq_false_iff_ne]; exact hp2
      have rp2b : ((q.a : Int) != d.to_) = true := by rw [bne_iff_ne]; exact hp2
      by_cases hp3 : q.a = 0
      · have rp3a : ((q.a : Int) == 0) = true := by rw [beq_iff_eq]; exact hp3
        have rp3b : ((q.a : Int) != 0) = false := by rw [bne_eq_false_iff_eq]; exact hp3
        by_cases hp4 : q.pp = 0
        · have rp4a : ((q.pp : Int) == 0) = true := by rw [beq_iff_eq]; exact hp4
          have rp4b : ((q.pp : Int) != 0) = false := by rw [bne_eq_false_iff_eq]; exact hp4
          have HR : Hid (worthR q d = 0) := by
            show _ = _
            unfold worthR
            (repeat' split) <;> omega
          clear hp1 hp2 hp3 hp4
          go_enter Try.func58, Try.ntmps58
          go_wp2
          go_ret
          exact ⟨by rw [HR.out]; rfl, al (al (rf w) _) _⟩
        · have rp4a : ((q.pp : Int) == 0) = false := by rw [beq_eq_false_iff_ne]; exact hp4
          have rp4b : ((q.pp : Int) != 0) = true := by rw [bne_iff_ne]; exact hp4
          by_cases hp5 : q.peer = d.fr
          · have rp5a : ((q.peer : Int) == d.fr) = true := by rw [beq_iff_eq]; exact hp5
            have rp5b : ((q.peer : Int) != d.fr) = false := by rw [bne_eq_false_iff_eq]; exact hp5
            by_cases hp6 : q.pp = d.frp
            · have rp6a : ((q.pp : Int) == d.frp) = true := by rw [beq_iff_eq]; exact hp6
              have rp6b : ((q.pp : Int) != d.frp) = false := by rw [bne_eq_false_iff_eq]; exact hp6
              have HR : Hid (worthR q d = 2) := by
                show _ = _
                unfold worthR
                (repeat' split) <;> omega
              clear hp1 hp2 hp3 hp4 hp5 hp6
              go_enter Try.func58, Try.ntmps58
              go_wp2
              go_ret
              exact ⟨by rw [HR.out]; rfl, al (al (rf w) _) _⟩
            · have rp6a : ((q.pp : Int) == d.frp) = false := by rw [beq_eq_false_iff_ne]; exact hp6
              have rp6b : ((q.pp : Int) != d.frp) = true := by rw [bne_iff_ne]; exact hp6
              have HR : Hid (worthR q d = -1) := by
                show _ = _
                unfold worthR
                (repeat' split) <;> omega
              clear hp1 hp2 hp3 hp4 hp5 hp6
              go_enter Try.func58, Try.ntmps58
              go_wp2
              go_ret
              exact ⟨by rw [HR.out]; rfl, al (al (rf w) _) _⟩
          · have rp5a : ((q.peer : Int) == d.fr) = false := by rw [beq_eq_false_iff_ne]; exact hp5
            have rp5b : ((q.peer : Int) != d.fr) = true := by rw [bne_iff_ne]; exact hp5
            have HR : Hid (worthR q d = -1) := by
              show _ = _
              unfold worthR
              (repeat' split) <;> omega
            clear hp1 hp2 hp3 hp4 hp5
            go_enter Try.func58, Try.ntmps58
            go_wp2
            go_ret
            exact ⟨by rw [HR.out]; rfl, al (al (rf w) _) _⟩
      · have rp3a : ((q.a : Int) == 0) = false := by rw [beq_eq_false_iff_ne]; exact hp3
        have rp3b : ((q.a : Int) != 0) = true := by rw [bne_iff_ne]; exact hp3
        have HR : Hid (worthR q d = -1) := by
          show _ = _
          unfold worthR
          (repeat' split) <;> omega
        clear hp1 hp2 hp3
        go_enter Try.func58, Try.ntmps58
        go_wp2
        go_ret
        exact ⟨by rw [HR.out]; rfl, al (al (rf w) _) _⟩
  · have rp1a : ((q.port : Int) == d.top) = false := by rw [beq_eq_false_iff_ne]; exact hp1
    have rp1b : ((q.port : Int) != d.top) = true := by rw [bne_iff_ne]; exact hp1
    have HR : Hid (worthR q d = -1) := by
      show _ = _
      unfold worthR
      (repeat' split) <;> omega
    clear hp1
    go_enter Try.func58, Try.ntmps58
    go_wp2
    go_ret
    exact ⟨by rw [HR.out]; rfl, al (al (rf w) _) _⟩
end Go.Proofs.Ytbhplleaokncpaa
