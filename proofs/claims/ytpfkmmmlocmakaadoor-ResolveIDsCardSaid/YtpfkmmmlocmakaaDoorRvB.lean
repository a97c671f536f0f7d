/-
  Resolve: asks, whole.
-/
import Derived.Test.YtpfkmmmlocmakaaDoorRvA
set_option linter.unusedVariables false
namespace Go.Proofs.YtpfkmmmlocmakaaDoor
open Go.RowKit Go.Maps

def AskP (w : World) (B N wb rb g : Nat) (z : Rz) (now draw : Int) (fs : List Fd) (FA : Option Addr) (fc : Nat) (ds : List Dg) (q : Qn) (e : Ending) (w' : World) : Prop :=
  e = .returned (.tuple #[]) ∧ ∃ (A : Option Addr) (k : Nat) (DA' : Option Addr) (dc' : Nat),
    IsRv w' B rb { z.upd g (q.ask (idV draw z.sent) now) with sent := z.sent + 1 } ∧
    IsWk w' N wb rb now draw fs FA fc (ds ++ [⟨z.port, svAt z q.server, askB (idV draw z.sent) q.name, A, k⟩]) DA' dc' ∧
    KeepT w.heap.size [68, 64, 71, 36] w w' ∧ KeepT N [68, 64] w w' ∧ Below B w w'
set_option maxRecDepth 100000 in
set_option maxHeartbeats 1600000 in
theorem asksC (w : World) (B N wb rb g : Nat) (z : Rz) (now draw : Int) (fs : List Fd) (FA : Option Addr) (fc : Nat) (ds : List Dg) (DA : Option Addr) (dc : Nat) (q : Qn)
    (hR : IsRv w B rb z) (hW : IsWk w N wb rb now draw fs FA fc ds DA dc) (hmem : (g, q) ∈ z.qs) (hm : MaxL w)
    (hn : isN q.name.data.toList = true) (hns : q.name.size ≤ 3000) (s0 : 0 ≤ q.server) (s1 : q.server < z.sv.length) (hsv : z.sv.length ≤ 3) (n0 : 0 ≤ now) (n1 : now ≤ 1152921504606846976) (a0 : 0 ≤ q.asked) (a1 : q.asked ≤ 1000) (e0 : 0 ≤ z.sent) (e1 : z.sent ≤ 1152921504606846976)
    (hds : ds.length ≤ 1000000) (hBN : B ≤ N) (hN : N ≤ w.heap.size) :
    Calls Tryd.prog 48 #[.pointer (some ⟨wb, 0, none⟩), .pointer (some ⟨g, 0, none⟩)] w (AskP w B N wb rb g z now draw fs FA fc ds q) := by
  have hq := (hR.q _ hmem).1
  have T0 := Lib.hid (T4.start hq hR.b hW.b)
  have r2 : w.cell? ⟨rb, 2, none⟩ = some (.int .i64 z.sent) := hR.b.cell 2
  have x0 : w.cell? ⟨wb, 0, none⟩ = some (.pointer (some ⟨rb, 0, none⟩)) := hW.b.cell 0
  have x2 : w.cell? ⟨wb, 2, none⟩ = some (.int .i64 draw) := hW.b.cell 2
  have q3 : w.cell? ⟨g, 3, none⟩ = some (.int .i64 q.id) := hq.cell 3
  have qf : w.frozen? ⟨g, 3, none⟩ = false := hq.frozen 3
  have HR := Lib.hid hR
  have HWk := Lib.hid hW
  have HQ := Lib.hid hq
  have HMEM := Lib.hid hmem
  have HM := Lib.hid hm
  have HID := Lib.hid (idV_le draw z.sent)
  clear hR hW hq hm hmem
  go_enter Tryd.func48, Tryd.ntmps48
  go_wp2
  go_region
  obtain ⟨id, hid⟩ : ∃ id, idV draw z.sent = id := ⟨_, rfl⟩
  unfold idV at hid
  have T1 := Lib.hid (T0.out.setG 3 (.int .i64 id))
  rw [hid]
  have HIE := Lib.hid hid
  clear hid r2 x0 x2 q3 qf
  generalize w.setCell ⟨g, 3, none⟩ (.int .i64 id) = w1 at T1 ⊢
  have r2 := T1.out.hr.cell 2
  have rf2 := T1.out.hr.frozen 2
  have x0 := T1.out.hw.cell 0
  have x1 := T1.out.hw.cell 1
  have q5 := T1.out.hq.cell 5
  have q6 := T1.out.hq.cell 6
  have q5f := T1.out.hq.frozen 5
  have q6f := T1.out.hq.frozen 6
  simp only [Rz.cs, Qn.cs, ptr, List.setIfInBounds_toArray, List.set_cons_zero, List.set_cons_succ, List.getElem?_toArray, List.getElem?_cons_zero, List.getElem?_cons_succ] at r2 x0 x1 q5 q6
  go_wp2
  have T4' : Hid (T4 w (((w1.setCell ⟨rb, 2, none⟩ (.int .i64 (z.sent + 1))).setCell ⟨g, 5, none⟩ (.int .i64 (q.asked + 1))).setCell ⟨g, 6, none⟩ (.int .i64 (now + 50))).drew g rb wb (q.ask id now).cs ({ z with sent := z.sent + 1 } : Rz).cs #[ptr rb, .int .i64 now, .int .i64 draw, .slice FA fs.length fc, .slice DA ds.length dc]) := (((T1.out.setR 2 _).setG 5 _).setG 6 _).drew
  clear r2 x0 x1 q5 q6 rf2 q5f q6f T1
  generalize (((w1.setCell ⟨rb, 2, none⟩ (.int .i64 (z.sent + 1))).setCell ⟨g, 5, none⟩ (.int .i64 (q.asked + 1))).setCell ⟨g, 6, none⟩ (.int .i64 (now + 50))).drew = w4 at T4' ⊢
  have R4 := Lib.hid (HR.out.of4 T4'.out ⟨q, HMEM.out⟩)
  have W4 := Lib.hid (HWk.out.of4 T4'.out HQ.out HR.out.b)
  have K4 := Lib.hid (T4'.out.keep (n := w.heap.size) HQ.out HR.out.b)
  have glo := (HR.out.q _ HMEM.out).2
  have B4 := Lib.hid (T4'.out.below glo HR.out.lo)
  have blo : 0 < w.heap.size := by
    obtain ⟨m, hx⟩ := HM.out
    exact block_lt_of_cell hx
  have q1 := T4'.out.hq.cell 1
  have q3 := T4'.out.hq.cell 3
  simp only [Qn.cs, Qn.ask, List.getElem?_toArray, List.getElem?_cons_zero, List.getElem?_cons_succ] at q1 q3
  have M4 : MaxL w4 := HM.out.of4 T4'.out HQ.out HR.out.b
  have q3a : ∀ o, (w4.alloc o).cell? ⟨g, 3, none⟩ = some (.int .i64 id) := fun o => (T4'.out.hq.alloc o).cell 3
  have i0 : 0 ≤ id := by rw [← HIE.out]; exact HID.out.1
  have i1 : id ≤ 65535 := by rw [← HIE.out]; exact HID.out.2
  have FE := Lib.hid (encAsk (w4.drew.alloc (.cells #[.string q.name, .int .i64 1, .int .i64 1, .int .i64 0, .slice none 0 0] 48)) w4.heap.size id q.name (blk_at _ _ _ rfl) hns hn i0 i1 (MaxL.below M4 (al (rf w4).drew _) (by rw [T4'.out.size]; exact blo)))
  clear M4 T4' glo
  go_region_law (first
    | (refine step_callE rfl 15 #[.agg #[.int .i64 id, .int .i64 256, .slice (some ⟨w4.heap.size, 0, none⟩) 1 1, .slice none 0 0]] (by kernel_rfl) FE.out (fun x => .tuple #[.slice x.1 (askB id q.name).length x.2, .int .i64 0]) (fun e w' h => ⟨h.1.choose, h.1.choose_spec.1⟩) ?_
       intro x w5 hrow
       have HROW := Lib.hid hrow
       clear hrow)
    | fail)
  all_goals
    have hx : ∃ x1 : Option Addr × Nat, Ending.returned (Value.tuple #[.slice x.1 (askB id q.name).length x.2, .int .i64 0]) = Ending.returned (Value.tuple #[.slice x1.1 (askB id q.name).length x1.2, .int .i64 0]) ∧ w5.ownsRow (w4.drew.alloc (.cells #[.string q.name, .int .i64 1, .int .i64 1, .int .i64 0, .slice none 0 0] 48)).heap.size 5 1 (.slice x1.1 (askB id q.name).length x1.2) (askB id q.name).length (Lib.byteCells (askB id q.name)) := HROW.out.1
    obtain ⟨x1, he, own⟩ := hx
    injection he with he
    injection he with he
    have he1 : (.slice x.1 (askB id q.name).length x.2 : Value) = .slice x1.1 (askB id q.name).length x1.2 := by
      have h := congrArg (fun a : Array Value => a[0]?) he
      simpa using h
    rw [← he1] at own
    have b5 : Below w4.heap.size w4 w5 := (al (rf w4).drew _).trans (HROW.out.2.mono (by simp))
    have z4 := b5.size
    have R5 := R4.out.nx b5
    have W5 := W4.out.nx b5
    have hsz4 : w.heap.size ≤ w4.heap.size := B4.out.size
    have hmem5 : (g, q.ask id now) ∈ ({ z.upd g (q.ask id now) with sent := z.sent + 1 } : Rz).qs := List.mem_map.2 ⟨(g, q), HMEM.out, if_pos rfl⟩
    refine (by assumption : ∀ (a : Act) (w' : World), Code.wp Tryd.prog _ _ a w' → Exit.then _ _ .normal a w') _ _ ?_
    refine asksT w5 B N wb rb g { z.upd g (q.ask id now) with sent := z.sent + 1 } now draw fs FA fc ds DA dc (q.ask id now) x.1 x.2 R5 W5 hmem5 s0 s1 hds (by omega) (own_base own (by simp; omega)) _ (fun e w' h => ?_) _ _ _ _ _ _ _ _ _ _ _ _ _ _ _ _ _ _ _ _ _ _ _ _ _ _ _ _ _ _ _ _ _ _ _ _ _ _ _ _ _ _ _ _ _ _ _ _ _ _ _ _ _ _ _ _ _ _ _ _ _ _ _ _ _ _ _ _ _ _ _ _ _ _ _ _ _ _ _ _ _ _ _ _ _ _ _ _ _ _ _ _
    obtain ⟨rfl, D', d', hW', kA, kN, bN⟩ := h
    have eid : idV draw z.sent = id := HIE.out
    unfold AskP
    rw [eid]
    have KW : KeepT w.heap.size [68, 64, 71, 36] w w' := ((K4.out.mono (by decide)).trans (KeepT.of_below b5 hsz4)).trans ((kA.mono (by decide)).less (by omega))
    have KN : KeepT N [68, 64] w w' := ((K4.out.less hN).trans (KeepT.of_below b5 (by omega))).trans (kN.mono (by decide))
    exact ⟨rfl, x.1, x.2, D', d', R5.keep kA (by decide) (by decide) (by decide) (by decide), hW', KW, KN, (B4.out.trans (b5.mono (by omega))).trans (bN.mono hBN)⟩
end Go.Proofs.YtpfkmmmlocmakaaDoor
