/-
  Ports: whom a datagram is for.
-/
import Derived.Test.YtbhplleaokncpaaPm5
set_option linter.unusedVariables false
namespace Go.Proofs.Ytbhplleaokncpaa
open Go.RowKit Go.Maps

theorem lex_iff (a b c d e f : Int) : orI (cmpI b a) (cmpI d c) (cmpI e f) < 0 ↔ (b < a ∨ (b = a ∧ (d < c ∨ (d = c ∧ e < f)))) := by
  unfold orI cmpI
  by_cases h1 : b < a
  · simp [h1]
  · by_cases h2 : a < b
    · simp [h1, h2]; omega
    · by_cases h3 : d < c
      · simp [h1, h2, h3]; omega
      · by_cases h4 : c < d
        · simp [h1, h2, h3, h4]; omega
        · by_cases h5 : e < f
          · simp [h1, h2, h3, h4, h5]; omega
          · by_cases h6 : f < e
            · simp [h1, h2, h3, h4, h5, h6]
            · simp [h1, h2, h3, h4, h5, h6]
theorem bet_iff (p q : Pl) (d : Dg) : betI p q d < 0 ↔ (oneI q.alone < oneI p.alone ∨ (oneI q.alone = oneI p.alone ∧ (oneI (q.a == d.to_) < oneI (p.a == d.to_) ∨ (oneI (q.a == d.to_) = oneI (p.a == d.to_) ∧ p.id < q.id)))) := lex_iff _ _ _ _ _ _
theorem bet_trans {p q r : Pl} {d : Dg} (h1 : betI r p d < 0) (h2 : betI p q d < 0) : betI r q d < 0 := by
  rw [bet_iff] at *
  omega
theorem bet_self (p : Pl) (d : Dg) : ¬ betI p p d < 0 := by
  rw [bet_iff]; omega
def Best (S : List Pl) (d : Dg) (q : Pl) : Prop := q ∈ S ∧ hearsR q d = true ∧ ∀ p ∈ S, hearsR p d = true → ¬ betI p q d < 0
-- the best of those that were looked at
def BestOf (S : List Pl) (d : Dg) (seen : Pl → Prop) : Option Pl → Prop
  | none => ∀ p ∈ S, seen p → hearsR p d = false
  | some q => q ∈ S ∧ hearsR q d = true ∧ ∀ p ∈ S, seen p → hearsR p d = true → ¬ betI p q d < 0
def idO : Option Pl → Int
  | none => -1
  | some q => q.id
def FindR (S : List Pl) (d : Dg) (v : Value) : Prop :=
  (v = .tuple #[.int .i64 (-1), .bool false] ∧ ∀ p ∈ S, hearsR p d = false) ∨ ∃ q, v = .tuple #[.int .i64 q.id, .bool true] ∧ Best S d q
theorem ranges_nx {w w' : World} {mb r : Nat} {S : List Pl} {D : DataW Unit} {left : Lit → Bool} {cnt : Nat} (h : Rg w mb r S D left cnt) (hb : Below w.heap.size w w') : Rg w' mb r S D left cnt :=
  World.ranges.kept (row := none) h ⟨hb.os, hb.tape, hb.output, hb.size, fun i hi _ => hb.block i hi⟩ (by simp) (by simp)
theorem best_keep {left : Lit → Bool} {S : List Pl} {B mb : Nat} {w : World} {G : Int → Nat} {D : DataW Unit} (hP : PmOk w B mb S G D) {p : Pl} (hp : p ∈ S) {d : Dg} {o : Option Pl} (h : BestOf S d (fun q => left (.int .i64 q.id) = false) o)
    (hn : hearsR p d = false ∨ ∃ q, o = some q ∧ ¬ betI p q d < 0) : BestOf S d (fun q => (left (.int .i64 q.id) && !(Lit.int .i64 q.id).sameKey (.int .i64 p.id)) = false) o := by
  rcases o with _ | q
  · rcases hn with hn | ⟨q, e, _⟩
    · exact left_strike hP hp (R := fun q => hearsR q d = false) h hn
    · cases e
  · refine ⟨h.1, h.2.1, left_strike hP hp (R := fun r => hearsR r d = true → ¬ betI r q d < 0) h.2.2 ?_⟩
    rcases hn with hn | ⟨q', e, hn⟩
    · intro e; rw [hn] at e; cases e
    · injection e with e; subst e; exact fun _ => hn
theorem best_take {left : Lit → Bool} {S : List Pl} {B mb : Nat} {w : World} {G : Int → Nat} {D : DataW Unit} (hP : PmOk w B mb S G D) {p : Pl} (hp : p ∈ S) {d : Dg} {o : Option Pl} (h : BestOf S d (fun q => left (.int .i64 q.id) = false) o)
    (hh : hearsR p d = true) (hn : ∀ q, o = some q → betI p q d < 0) : BestOf S d (fun q => (left (.int .i64 q.id) && !(Lit.int .i64 q.id).sameKey (.int .i64 p.id)) = false) (some p) := by
  refine ⟨hp, hh, left_strike hP hp (R := fun r => hearsR r d = true → ¬ betI r p d < 0) ?_ (fun _ => bet_self p d)⟩
  rcases o with _ | q
  · intro r hr hl e
    rw [h r hr hl] at e; cases e
  · intro r hr hl e hlt
    exact h.2.2 r hr hl e (bet_trans hlt (hn q rfl))
set_option maxRecDepth 100000 in
set_option maxHeartbeats 3200000 in
theorem findC (B pb : Nat) (S : List Pl) (d : Dg) (w : World) (h : IsP w B pb S) :
    Calls Try.prog 16 #[.pointer (some ⟨pb, 0, none⟩), .agg d.cs.toArray] w fun e w' => (∃ v, e = .returned v ∧ FindR S d v) ∧ Below w.heap.size w w' := by
  have hIP := h
  have X2 : Blk ((w.alloc (.cells #[.pointer (some ⟨pb, 0, none⟩)] 24)).alloc (.cells d.cs.toArray 37)) w.heap.size 24 #[.pointer (some ⟨pb, 0, none⟩)] := Blk.alloc (Blk.new _ _ _) _
  have X3 : Blk ((w.alloc (.cells #[.pointer (some ⟨pb, 0, none⟩)] 24)).alloc (.cells d.cs.toArray 37)) (w.heap.size + 1) 37 d.cs.toArray := blk_at _ _ _ (by simp)
  have bw : Below w.heap.size w ((w.alloc (.cells #[.pointer (some ⟨pb, 0, none⟩)] 24)).alloc (.cells d.cs.toArray 37)) := al (al (rf w) _) _
  have hWs : ((w.alloc (.cells #[.pointer (some ⟨pb, 0, none⟩)] 24)).alloc (.cells d.cs.toArray 37)).heap.size = w.heap.size + 2 := by simp
  have HX2 := Lib.hid X2; clear X2
  have HX3 := Lib.hid X3; clear X3
  have HBW := Lib.hid bw; clear bw
  have HIP := Lib.hid hIP; clear hIP
  have HWS := Lib.hid hWs; clear hWs
  obtain ⟨hpb, ⟨h1, rfl⟩ | ⟨mb, G, D, h1, hP, hne⟩⟩ := h
  · have c0 : ((w.alloc (.cells #[.pointer (some ⟨pb, 0, none⟩)] 24)).alloc (.cells d.cs.toArray 37)).cell? ⟨pb, 0, none⟩ = some (.map none) := ((h1.alloc _).alloc _).cell 0
    have hlt := h1.lt
    have n1 : pb ≠ w.heap.size := by omega
    have n2 : pb ≠ w.heap.size + 1 := by omega
    have hr := run_range_nilMap (P := Try.prog) ((w.alloc (.cells #[.pointer (some ⟨pb, 0, none⟩)] 24)).alloc (.cells d.cs.toArray 37)) 25 3 73 Try.underlying25
    have hnx : ∀ ty, (Instr.next (.pointer (some ⟨((w.alloc (.cells #[.pointer (some ⟨pb, 0, none⟩)] 24)).alloc (.cells d.cs.toArray 37)).heap.size, 0, none⟩)) false ty).run Try.prog (((w.alloc (.cells #[.pointer (some ⟨pb, 0, none⟩)] 24)).alloc (.cells d.cs.toArray 37)).alloc (.mapIter none 0 #[] 0)) = _ := fun ty => run_next_nilMap ((w.alloc (.cells #[.pointer (some ⟨pb, 0, none⟩)] 24)).alloc (.cells d.cs.toArray 37)) ty 0 0 #[]
    rw [HWS.out] at hr hnx
    clear h1 hpb hlt
    go_enter Try.func16, Try.ntmps16
    go_wp2
    refine wp_loop_rounds 1 ?_
    rw [rounds_succ]
    go_wp2
    go_ret2
    exact ⟨⟨_, rfl, .inl ⟨rfl, by simp⟩⟩, al HBW.out _⟩
  · have c0 : ((w.alloc (.cells #[.pointer (some ⟨pb, 0, none⟩)] 24)).alloc (.cells d.cs.toArray 37)).cell? ⟨pb, 0, none⟩ = some (.map (some mb)) := ((h1.alloc _).alloc _).cell 0
    have hlt := h1.lt
    have n1 : pb ≠ w.heap.size := by omega
    have n2 : pb ≠ w.heap.size + 1 := by omega
    have HP := Lib.hid hP
    have hown := Lib.hid ((hP.own.alloc (.cells #[.pointer (some ⟨pb, 0, none⟩)] 24)).alloc (.cells d.cs.toArray 37))
    clear h1 hP hlt
    go_enter Try.func16, Try.ntmps16
    go_wp2_with (at_range; refine wpList_range_own _ rfl _ 25 rfl 3 73 intK Try.underlying25 _ mb S.length D rfl hown.out ?_; intro w0 hrg0 hg0 hs0)
    go_frame
    rw [HWS.out] at hrg0
    have hr0 : ((w.alloc (.cells #[.pointer (some ⟨pb, 0, none⟩)] 24)).alloc (.cells d.cs.toArray 37)).heap.size = w.heap.size + 2 := HWS.out
    rw [hr0]
    have B0 : Below ((w.alloc (.cells #[.pointer (some ⟨pb, 0, none⟩)] 24)).alloc (.cells d.cs.toArray 37)).heap.size ((w.alloc (.cells #[.pointer (some ⟨pb, 0, none⟩)] 24)).alloc (.cells d.cs.toArray 37)) w0 := ⟨hg0.os, hg0.tape, hg0.output, hg0.size, fun i hi => hg0.block i hi (by simp)⟩
    have Y2 := HX2.out.nx B0
    have Y3 := HX3.out.nx B0
    have Bw := nx HBW.out B0
    have HY := Lib.hid (And.intro Y2 (And.intro Y3 (And.intro Bw hrg0)))
    clear Y2 Y3 Bw hrg0 hg0 hs0 B0 hown HX2 HX3
    clear hr0
    go_loopw [7] (fun bv wr => ∃ left cnt o, bv = .int .i64 (idO o) ∧ Rg wr mb (w.heap.size + 2) S D left cnt ∧ Below w.heap.size w wr ∧ Blk wr w.heap.size 24 #[.pointer (some ⟨pb, 0, none⟩)] ∧ Blk wr (w.heap.size + 1) 37 d.cs.toArray ∧ BestOf S d (fun p => left (.int .i64 p.id) = false) o) (fun _ wr => wr.rangeLeft mb (w.heap.size + 2))
    case atStart =>
      refine ⟨_, _, none, rfl, HY.out.2.2.2, HY.out.2.2.1, HY.out.1, HY.out.2.1, fun p hp hl => ?_⟩
      have hl : Maps.has D (.int .i64 p.id) = false := hl
      rw [HP.out.has _ (HP.out.wf p hp), ids_of hp] at hl
      cases hl
    case round =>
      obtain ⟨left, cnt, o, rfl, hrg, hb, hy2, hy3, hok⟩ := hrel
      have HB := Lib.hid hb
      have HOK := Lib.hid hok
      have HRG := Lib.hid hrg
      have HY2 := Lib.hid hy2
      have HY3 := Lib.hid hy3
      clear hb hok hrg HY hy2 hy3
      go_wp2_with (at_next; refine wpList_next_P _ rfl _ rfl B mb (w.heap.size + 2) S G D left cnt rfl w HP.out HRG.out ?_ ?_)
      · intro hl
        rcases o with _ | q
        · have hf : Hid (∀ p ∈ S, hearsR p d = false) := fun p hp => HOK.out p hp (hl p hp)
          clear hl
          simp only [idO]
          go_wp2
          go_ret2
          exact ⟨⟨_, rfl, .inl ⟨rfl, hf.out⟩⟩, HB.out⟩
        · have hf : Hid (Best S d q) := ⟨HOK.out.1, HOK.out.2.1, fun p hp => HOK.out.2.2 p hp (hl p hp)⟩
          have hnn : 0 ≤ q.id := HP.out.nn q HOK.out.1
          clear hl
          simp only [idO]
          go_wp2
          go_ret2
          exact ⟨⟨_, rfl, .inr ⟨q, rfl, hf.out⟩⟩, HB.out⟩
      · intro p w1 cnt1 hp hl hrg1 hlt hg1 hs1 hen
        have hb1 : Below w.heap.size w w1 := HB.out.trans (below_only hg1 (by omega) HB.out.size)
        have z2 := Lib.hid (HY2.out.only hg1 (by omega))
        have z3 := Lib.hid (HY3.out.only hg1 (by omega))
        have hblk := Lib.hid ((HP.out.blk p hp).nx hb1)
        have HM : Hid (cnt1 < wr.rangeLeft mb (w.heap.size + 2)) := by show _ < _; rw [HRG.out.left_eq]; exact hlt
        have HRG1 := Lib.hid hrg1
        have HB1 := Lib.hid hb1
        have HPP := Lib.hid hp
        clear hb1 hrg1 hlt hg1 hs1 hl hp HB HRG HY2 HY3
        cases hh : hearsR p d
        · have HO1 := Lib.hid (best_keep HP.out HPP.out HOK.out (.inl hh))
          have HH := Lib.hid hh; clear hh
          go_wp2_with (with_reducible refine wpList_load_blk rfl 37 3 rfl (w.heap.size + 1) 0 5 (by kernel_rfl) 37 _ d.cs z3.out (by kernel_rfl) _ Try.underlying37 (by kernel_rfl) (by kernel_rfl) ?_)
          refine (hearsC (G p.id) p d _ hblk.out).mono ?_
          rintro e w2 ⟨rfl, hb2⟩
          rw [HH.out]
          have HB2 := Lib.hid hb2; clear hb2
          go_wp2
          go_roundw
          case rel => exact ⟨_, _, o, rfl, ranges_nx HRG1.out HB2.out, nx HB1.out HB2.out, z2.out.nx HB2.out, z3.out.nx HB2.out, HO1.out⟩
          case measure => rw [(ranges_nx HRG1.out HB2.out).left_eq]; exact HM.out
        · have HH := Lib.hid hh; clear hh
          rcases o with _ | q
          · have HO1 := Lib.hid (best_take HP.out HPP.out HOK.out HH.out (fun q e => by cases e))
            simp only [idO]
            go_wp2_with (with_reducible refine wpList_load_blk rfl 37 3 rfl (w.heap.size + 1) 0 5 (by kernel_rfl) 37 _ d.cs z3.out (by kernel_rfl) _ Try.underlying37 (by kernel_rfl) (by kernel_rfl) ?_)
            refine (hearsC (G p.id) p d _ hblk.out).mono ?_
            rintro e w2 ⟨rfl, hb2⟩
            rw [HH.out]
            have HB2 := Lib.hid hb2; clear hb2
            go_wp2
            go_roundw
            case rel => exact ⟨_, _, some p, rfl, ranges_nx HRG1.out HB2.out, nx HB1.out HB2.out, z2.out.nx HB2.out, z3.out.nx HB2.out, HO1.out⟩
            case measure => rw [(ranges_nx HRG1.out HB2.out).left_eq]; exact HM.out
          · have hnn : 0 ≤ q.id := HP.out.nn q HOK.out.1
            have hnn2 : ¬ q.id < 0 := by omega
            simp only [idO]
            go_wp2_with (with_reducible refine wpList_load_blk rfl 37 3 rfl (w.heap.size + 1) 0 5 (by kernel_rfl) 37 _ d.cs z3.out (by kernel_rfl) _ Try.underlying37 (by kernel_rfl) (by kernel_rfl) ?_)
            refine (hearsC (G p.id) p d _ hblk.out).mono ?_
            rintro e w2 ⟨rfl, hb2⟩
            rw [HH.out]
            have HB2 := Lib.hid hb2; clear hb2
            go_wp2_with fail
            refine (betC B pb w.heap.size (w.heap.size + 1) S d p q _ (HIP.out.nx (nx HB1.out HB2.out)) HPP.out HOK.out.1 (HP.out.wf p HPP.out) (HP.out.wf q HOK.out.1) (z2.out.nx HB2.out) (z3.out.nx HB2.out)).mono ?_
            rintro e w3 ⟨rfl, hb3⟩
            have HB3 := Lib.hid hb3; clear hb3
            by_cases hb : betI p q d < 0
            · have HO1 := Lib.hid (best_take HP.out HPP.out HOK.out HH.out (fun q' e => by injection e with e; subst e; exact hb))
              go_wp2
              go_roundw
              case rel => exact ⟨_, _, some p, rfl, ranges_nx (ranges_nx HRG1.out HB2.out) HB3.out, nx (nx HB1.out HB2.out) HB3.out, (z2.out.nx HB2.out).nx HB3.out, (z3.out.nx HB2.out).nx HB3.out, HO1.out⟩
              case measure => rw [(ranges_nx (ranges_nx HRG1.out HB2.out) HB3.out).left_eq]; exact HM.out
            · have HO1 := Lib.hid (best_keep HP.out HPP.out HOK.out (.inr ⟨q, rfl, hb⟩))
              go_wp2
              go_roundw
              case rel => exact ⟨_, _, some q, rfl, ranges_nx (ranges_nx HRG1.out HB2.out) HB3.out, nx (nx HB1.out HB2.out) HB3.out, (z2.out.nx HB2.out).nx HB3.out, (z3.out.nx HB2.out).nx HB3.out, HO1.out⟩
              case measure => rw [(ranges_nx (ranges_nx HRG1.out HB2.out) HB3.out).left_eq]; exact HM.out
end Go.Proofs.Ytbhplleaokncpaa
