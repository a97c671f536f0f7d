/-
  Ports: ranging over the map; whether a place is free.
-/
import Derived.Test.YtbhplleaokncpaaPm
set_option linter.unusedVariables false
namespace Go.Proofs.Ytbhplleaokncpaa
open Go.RowKit Go.Maps

section
variable {ops : Array Oper} {rest : List Oper} {o : Oper} {a : Act} {Q : Exit → Act → World → Prop}
abbrev Rg (w : World) (mb r : Nat) (S : List Pl) (D : DataW Unit) (left : Lit → Bool) (cnt : Nat) : Prop := w.ranges Try.prog 3 pR mb r S.length D left cnt
theorem wpList_next_P (w : World) (hg : o.guard = none) (it : Operand) (hop : o.op = Op.next it false) (B mb r : Nat) (S : List Pl) (G : Int → Nat) (D : DataW Unit) (left : Lit → Bool) (cnt : Nat)
    (hit : a.eval it = .pointer (some ⟨r, 0, none⟩)) (wP : World) (hP : PmOk wP B mb S G D) (h : Rg w mb r S D left cnt)
    (hDone : (∀ p ∈ S, left (.int .i64 p.id) = false) → wpList Try.prog ops Q rest (a.put o.dst (.tuple #[.bool false])) w)
    (hMore : ∀ (p : Pl) (w' : World) (cnt' : Nat), p ∈ S → left (.int .i64 p.id) = true → Rg w' mb r S D (fun z => left z && !z.sameKey (.int .i64 p.id)) cnt' → cnt' < cnt →
      w.grownBy w' (some r) → w'.heap.size = w.heap.size → (Instr.entry (.pointer (some ⟨r, 0, none⟩))).run Try.prog w' = .ok (.tuple #[.int .i64 p.id, .pointer (some ⟨G p.id, 0, none⟩)]) w' →
      wpList Try.prog ops Q rest (a.put o.dst (.tuple #[.bool true, .int .i64 p.id, .pointer (some ⟨G p.id, 0, none⟩)])) w') :
    wpList Try.prog ops Q (o :: rest) a w := by
  refine wpList_next_ranges w hg it hop 3 intK pR (Value.int .i64) pV (fun key kl hk => by obtain ⟨x, rfl, _⟩ := Maps.keyOf_int_inv Try.underlying3 hk; exact ⟨x, rfl⟩)
    (fun v y hv => by obtain ⟨c, rfl, _⟩ := pR_inv v y hv; exact ⟨c, rfl⟩) mb r S.length D left cnt hit h (fun _ hl => hDone fun p _ => hl _) ?_
  intro x c kl y w' cnt' hk hl hR hat hrg hlt hgr hsz hen
  obtain ⟨x', ex, rfl, hwf⟩ := Maps.keyOf_int_inv Try.underlying3 hk
  injection ex with _ ex
  subst ex
  have hi : ids S x = true := by rw [← hP.has x hwf]; exact Maps.has_true_of_atKey hat
  obtain ⟨p, hp, rfl⟩ := ids_mem hi
  have e1 := hat (.nil)
  rw [hP.at_ p hp] at e1
  rw [pR_mk] at hR
  injection hR with hR
  rw [← hR] at e1
  obtain rfl := (pD_inj e1)
  exact hMore p w' cnt' hp hl hrg hlt hgr hsz hen
end
theorem left_strike {left : Lit → Bool} {S : List Pl} {B mb : Nat} {w : World} {G : Int → Nat} {D : DataW Unit} (hP : PmOk w B mb S G D) {p : Pl} (hp : p ∈ S) {R : Pl → Prop} (h : ∀ q ∈ S, left (.int .i64 q.id) = false → R q) (hn : R p) :
    ∀ q ∈ S, (left (.int .i64 q.id) && !(Lit.int .i64 q.id).sameKey (.int .i64 p.id)) = false → R q := by
  intro q hq hl
  by_cases e : q.id = p.id
  · have : q = p := by
      by_cases hne : q = p
      · exact hne
      · have := hP.apart
        exact absurd e (by
          have hh : ∀ (l : List Pl), l.Pairwise (fun p q => p.id ≠ q.id) → ∀ a ∈ l, ∀ b ∈ l, a.id = b.id → a = b := by
            intro l
            induction l with
            | nil => intro _ a ha; cases ha
            | cons c l ih =>
              intro hpw a ha b hb hab
              rw [List.pairwise_cons] at hpw
              rcases List.mem_cons.1 ha with ha' | ha'
              · rcases List.mem_cons.1 hb with hb' | hb'
                · rw [ha', hb']
                · rw [ha'] at hab; exact absurd hab (hpw.1 b hb')
              · rcases List.mem_cons.1 hb with hb' | hb'
                · rw [hb'] at hab; exact absurd hab.symm (hpw.1 a ha')
                · exact ih hpw.2 a ha' b hb' hab
          exact fun e => hne (hh S this q hq p hp e))
    rw [this]; exact hn
  · have h1 : (Lit.int .i64 q.id).sameKey (.int .i64 p.id) = false := Maps.sameKey_ne (by intro h; injection h with _ h; exact e h)
    rw [h1] at hl
    exact h q hq (by simpa using hl)
def clash (a port : Int) (p : Pl) : Bool := p.port == port && (p.a == a || p.a == 0 || a == 0)
def freeR (S : List Pl) (a port : Int) : Bool := S.all fun p => !clash a port p
set_option maxHeartbeats 1600000 in
theorem freeC (B pb : Nat) (S : List Pl) (a port : Int) (w : World) (h : IsP w B pb S) :
    Calls Try.prog 31 #[.pointer (some ⟨pb, 0, none⟩), .int .u32 a, .int .i64 port] w fun e w' => e = .returned (.bool (freeR S a port)) ∧ Below w.heap.size w w' := by
  obtain ⟨_, ⟨h1, rfl⟩ | ⟨mb, G, D, h1, hP, hne⟩⟩ := h
  · have c0 : w.cell? ⟨pb, 0, none⟩ = some (.map none) := h1.cell 0
    have hr := run_range_nilMap (P := Try.prog) w 25 3 73 Try.underlying25
    have hnx : ∀ ty, (Instr.next (.pointer (some ⟨w.heap.size, 0, none⟩)) false ty).run Try.prog (w.alloc (.mapIter none 0 #[] 0)) = _ := fun ty => run_next_nilMap w ty 0 0 #[]
    clear h1
    go_enter Try.func31, Try.ntmps31
    go_wp2
    refine wp_loop_rounds 1 ?_
    rw [rounds_succ]
    go_wp2
    go_ret
    exact ⟨rfl, al (rf w) _⟩
  · have c0 : w.cell? ⟨pb, 0, none⟩ = some (.map (some mb)) := h1.cell 0
    have HP := Lib.hid hP
    have hown := Lib.hid hP.own
    clear h1 hP
    go_enter Try.func31, Try.ntmps31
    go_wp2_with (at_range; refine wpList_range_own _ rfl _ 25 rfl 3 73 intK Try.underlying25 _ mb S.length D rfl hown.out ?_; intro w0 hrg0 hg0 hs0)
    go_frame
    go_loopw [8] (fun _ wr => ∃ left cnt, Rg wr mb w.heap.size S D left cnt ∧ Below w.heap.size w wr ∧ (∀ p ∈ S, left (.int .i64 p.id) = false → clash a port p = false)) (fun _ wr => wr.rangeLeft mb w.heap.size)
    case atStart =>
      refine ⟨_, _, hrg0, ⟨hg0.os, hg0.tape, hg0.output, hg0.size, fun i hi => hg0.block i hi (by simp)⟩, fun p hp hl => ?_⟩
      rw [HP.out.has _ (HP.out.wf p hp), ids_of hp] at hl
      cases hl
    case round =>
      obtain ⟨left, cnt, hrg, hb, hok⟩ := hrel
      have HB := Lib.hid hb
      have HOK := Lib.hid hok
      have HRG := Lib.hid hrg
      clear hb hok hrg hrg0 hg0 hs0
      go_wp2_with (at_next; refine wpList_next_P _ rfl _ rfl B mb w.heap.size S G D left cnt rfl w HP.out HRG.out ?_ ?_)
      · intro hl
        have hf : Hid (freeR S a port = true) := List.all_eq_true.2 fun p hp => by rw [HOK.out p hp (hl p hp)]; rfl
        clear hl
        go_wp2
        go_ret
        exact ⟨by rw [hf.out]; rfl, HB.out⟩
      · intro p w1 cnt1 hp hl hrg1 hlt hg1 hs1 hen
        have hb1 : Below w.heap.size w w1 := HB.out.trans (below_only hg1 (Nat.le_refl _) HB.out.size)
        have hblk := (HP.out.blk p hp).nx hb1
        have k0 : w1.cell? ⟨G p.id, 0, none⟩ = some (.int .u32 p.a) := hblk.cell 0
        have k1 : w1.cell? ⟨G p.id, 1, none⟩ = some (.int .i64 p.port) := hblk.cell 1
        have HB1 := Lib.hid hb1
        have HRG1 := Lib.hid hrg1
        have HM : Hid (w1.rangeLeft mb w.heap.size < wr.rangeLeft mb w.heap.size) := by show _ < _; rw [hrg1.left_eq, HRG.out.left_eq]; exact hlt
        have HST : Hid (clash a port p = false → ∀ q ∈ S, (left (.int .i64 q.id) && !(Lit.int .i64 q.id).sameKey (.int .i64 p.id)) = false → clash a port q = false) := fun hn => left_strike HP.out hp HOK.out hn
        have HF : Hid (clash a port p = true → freeR S a port = false) := fun hc => by
          show S.all _ = false
          rw [List.all_eq_false]
          exact ⟨p, hp, by rw [hc]; simp⟩
        clear hb1 hblk hrg1 hlt hg1 hs1 hl hp HB HOK HRG
        by_cases q1 : p.port = port
        · have r1 : ((p.port : Int) == port) = true := by rw [beq_iff_eq]; exact q1
          by_cases q2 : p.a = a
          · have r2 : ((p.a : Int) == a) = true := by rw [beq_iff_eq]; exact q2
            have hc := Lib.hid (HF.out (by unfold clash; rw [r1, r2]; rfl))
            clear q1 q2
            go_wp2
            go_ret
            exact ⟨by rw [hc.out]; rfl, HB1.out⟩
          · have r2 : ((p.a : Int) == a) = false := by rw [beq_eq_false_iff_ne]; exact q2
            by_cases q3 : p.a = 0
            · have r3 : ((p.a : Int) == 0) = true := by rw [beq_iff_eq]; exact q3
              have hc := Lib.hid (HF.out (by unfold clash; rw [r1, r3]; simp))
              clear q1 q2 q3
              go_wp2
              go_ret
              exact ⟨by rw [hc.out]; rfl, HB1.out⟩
            · have r3 : ((p.a : Int) == 0) = false := by rw [beq_eq_false_iff_ne]; exact q3
              by_cases q4 : a = 0
              · have r4 : ((a : Int) == 0) = true := by rw [beq_iff_eq]; exact q4
                have hc := Lib.hid (HF.out (by unfold clash; rw [r1, r4]; simp))
                clear q1 q2 q3 q4
                go_wp2
                go_ret
                exact ⟨by rw [hc.out]; rfl, HB1.out⟩
              · have r4 : ((a : Int) == 0) = false := by rw [beq_eq_false_iff_ne]; exact q4
                have hc := Lib.hid (HST.out (by unfold clash; rw [r1, r2, r3, r4]; rfl))
                clear q1 q2 q3 q4
                go_wp2
                go_roundw
                case rel => exact ⟨_, _, HRG1.out, HB1.out, hc.out⟩
                case measure => exact HM.out
        · have r1 : ((p.port : Int) == port) = false := by rw [beq_eq_false_iff_ne]; exact q1
          have hc := Lib.hid (HST.out (by unfold clash; rw [r1]; rfl))
          clear q1
          go_wp2
          go_roundw
          case rel => exact ⟨_, _, HRG1.out, HB1.out, hc.out⟩
          case measure => exact HM.out
end Go.Proofs.Ytbhplleaokncpaa
