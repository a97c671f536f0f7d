/-
  Routes, the reference: Add and Remove as laws of lists, with the row's place told.
-/
import Derived.Test.YtmboadgmhafedaaRr6
set_option linter.unusedVariables false
namespace Go.Proofs.Ytmboadgmhafedaa
open Go.RowKit

def RnP (w : World) (B t : Nat) (v : Value) (L : List R4) (r : R4) (e : Ending) (w' : World) : Prop :=
  (∃ (p : Nat) (x : R4), L[p]? = some x ∧ keyP x r ∧ RqP w B t v (L.take p ++ L.drop (p + 1)) 0 e w') ∨ ((∀ x ∈ L, ¬ keyP x r) ∧ RqP w B t v L 7 e w')
set_option maxRecDepth 10000 in
set_option maxHeartbeats 3200000 in
theorem rremoveD (w : World) {B t : Nat} {L : List R4} {v : Value} (o : IsTr w B t L v) (hn : L.length ≤ 1000) (r : R4) (hB : B ≤ w.heap.size) :
    Calls Try.prog 16 #[.pointer (some ⟨t, 0, none⟩), .agg #[.int .u32 r.x, .int .i64 r.y, .int .u32 r.z, .int .i64 r.u]] w fun e w' => RnP w B t v L r e w' := by
  obtain ⟨A, c, rfl, hnc⟩ := o.own.form
  obtain ⟨n, hnn⟩ : ∃ n, L.length = n := ⟨_, rfl⟩
  obtain ⟨W, hW⟩ : ∃ W, w.alloc (.cells #[.int .u32 r.x, .int .i64 r.y, .int .u32 r.z, .int .i64 r.u] 36) = W := ⟨_, rfl⟩
  have bw : Below w.heap.size w W := by rw [← hW]; exact al (rf w) _
  have zW := bw.size
  have OW := Lib.hid (o.nx bw)
  have SC := Lib.hid (spotC W (o.nx bw) hn r)
  rw [hnn] at o hnc hn OW ⊢
  have HN := Lib.hid hnn
  have BW := Lib.hid bw
  have c0 : W.cell? ⟨w.heap.size, 0, none⟩ = some (.int .u32 r.x) := by rw [← hW]; exact (Blk.new w _ _).cell 0
  have c1 : W.cell? ⟨w.heap.size, 1, none⟩ = some (.int .i64 r.y) := by rw [← hW]; exact (Blk.new w _ _).cell 1
  have c2 : W.cell? ⟨w.heap.size, 2, none⟩ = some (.int .u32 r.z) := by rw [← hW]; exact (Blk.new w _ _).cell 2
  have c3 : W.cell? ⟨w.heap.size, 3, none⟩ = some (.int .i64 r.u) := by rw [← hW]; exact (Blk.new w _ _).cell 3
  clear o hnn bw
  go_enter Try.func16, Try.ntmps16
  go_wp2_with fail
  refine SC.out.mono ?_
  rintro e w1 ⟨s, rfl, hs, b1⟩
  have O1 := Lib.hid (OW.out.nx b1)
  have BW1 := Lib.hid (nx BW.out b1)
  have z1 := BW1.out.size
  clear b1 c0 c1 c2 c3
  rcases hs with ⟨p, x, rfl, hx, hk⟩ | ⟨rfl, hno⟩
  · have hplt : p < n := by have := (List.getElem?_eq_some_iff.1 hx).1; have := HN.out; omega
    obtain ⟨g, hA, _⟩ := O1.out.own.cells hx
    subst hA
    have c1 : w1.cell? ⟨t, 0, none⟩ = some (.slice (some ⟨g, 0, none⟩) n c) := O1.out.tab.cell 0
    have HX := Lib.hid hx
    have HK := Lib.hid hk
    have k0 : (0 : Int) ≤ p := by omega
    have k1 : (p : Int) < n := by omega
    have k2 : (p : Int) ≤ c := by omega
    have k3 : (p : Int) + 1 ≤ n := by omega
    have k4 : (0 : Int) ≤ (p : Int) + 1 := by omega
    have kneg : ¬ (p : Int) < 0 := by omega
    have hpb : p ≤ 1000 := by omega
    clear hx hk
    go_wp2
    have hrb := O1.out.tab.lt
    have e1 : ∀ x : Gz w1 t 47 #[.slice (some ⟨g, 0, none⟩) n c], x.w.cell? ⟨t, 0, none⟩ = some (.slice (some ⟨g, 0, none⟩) n c) := fun x => x.z.cell 0
    have hne1 : Nonempty (Gz w1 t 47 #[.slice (some ⟨g, 0, none⟩) n c]) := ⟨⟨w1, World.grownBy.refl _ _, O1.out.tab⟩⟩
    have hgr : g ≠ t := fun e => by
      obtain ⟨cur, hg, _⟩ := O1.out.own.base_
      have h2 := O1.out.tab
      rw [← e] at h2
      have := hg.symm.trans h2
      simp at this
    have RW : Hid (∀ y : Gz w1 t 47 #[.slice (some ⟨g, 0, none⟩) n c], Reads y.w y.w.heap.size 4 (some ⟨g, 0, none⟩) L.length (flat L)) := fun y => by
      have hw := World.ownsRow.kept (show w1.ownsRow B 36 4 (.slice (some ⟨g, 0, none⟩) n c) L.length (flat L) from O1.out.own) y.h (.inr (by simp only [Value.ownBlock]; intro e; injection e with e; exact hgr e))
      exact OwnL.reads (show OwnL y.w B (.slice (some ⟨g, 0, none⟩) n c) L from hw)
    have RA : Hid (∀ y : Gz w1 t 47 #[.slice (some ⟨g, 0, none⟩) n c], Reads y.w y.w.heap.size 4 (some ⟨g, 0, none⟩) p (flat (L.take p))) := fun y => reads_take (RW.out y) (by rw [HN.out]; omega)
    obtain ⟨AX, hAX⟩ : ∃ AX : Option Addr, AX = if c = p + 1 then some ⟨g, 0, none⟩ else (some (⟨g, 0, none⟩ : Addr)).map (·.add ((p + 1) * 4)) := ⟨_, rfl⟩
    have HAX := Lib.hid hAX
    have RD : Hid (∀ y : Gz w1 t 47 #[.slice (some ⟨g, 0, none⟩) n c], Reads y.w y.w.heap.size 4 AX (n - (p + 1)) (flat (L.drop (p + 1)))) := fun y => by
      have h9 := reads_drop' (RW.out y) HN.out (p := p + 1) (c := c) (by omega) hnc
      unfold cutB at h9
      rw [← hAX] at h9
      exact h9
    clear hAX
    refine wp_region_chn t 47 #[.slice (some ⟨g, 0, none⟩) n c] 19 (by kernel_rfl) (by kernel_rfl) (by kernel_rfl) (by kernel_rfl) O1.out.tab ?_
    iterate 1 (refine chn_early (by kernel_rfl) (by kernel_rfl) (by kernel_rfl) ?_; intro K hK; go_big_quiet_op; go_big_quiet_on)
    refine chn_lit0 (by kernel_rfl) 22 36 rfl (fun w => by kernel_rfl) (by decide) hrb 4 (fun v1 hv1 => ?_)
    obtain ⟨A1, c1', rfl⟩ := hv1
    go_frame
    iterate 6 (refine chn_early (by kernel_rfl) (by kernel_rfl) (by kernel_rfl) ?_; intro K hK; go_big_quiet_op; go_big_quiet_on)
    refine chn_app stR (by kernel_rfl) (.tmp 12) (.tmp 18) rfl (by decide) (by kernel_rfl) hrb (.slice A1 0 c1') 0 [] rfl (fun w h => h) (some ⟨g, 0, none⟩) p c (flat (L.take p)) rfl RA.out (flat_one _) (by omega) (by omega) p (Nat.zero_add p) _ (List.nil_append _) (fun v2 hv2 => ?_)
    obtain ⟨A2, c2, rfl⟩ := hv2
    go_frame
    iterate 6 (refine chn_early (by kernel_rfl) (by kernel_rfl) (by kernel_rfl) ?_; intro K hK; go_big_quiet_op; go_big_quiet_on)
    refine chn_early (by kernel_rfl) (by kernel_rfl) (by kernel_rfl) ?_
    intro K hK
    refine quiet_cutL 4 22 (.tmp 23) (.tmp 25) rfl rfl (fun w => by kernel_rfl) (some ⟨g, 0, none⟩) n c (p + 1) .i64 rfl rfl (by omega) hnc AX HAX.out ?_
    refine hK _ ?_
    clear hK K
    go_frame
    refine chn_app stR (by kernel_rfl) (.tmp 19) (.tmp 26) rfl (by decide) (by kernel_rfl) hrb (.slice A2 p c2) p (flat (L.take p)) rfl (fun w h => h) _ (n - (p + 1)) (c - (p + 1)) (flat (L.drop (p + 1))) rfl RD.out (flat_one _) (by omega) (by omega) _ rfl _ rfl (fun v3 hv3 => ?_)
    obtain ⟨A3, c3, rfl⟩ := hv3
    go_frame
    iterate 2 (refine chn_early (by kernel_rfl) (by kernel_rfl) (by kernel_rfl) ?_; intro K hK; go_big_quiet_op; go_big_quiet_on)
    refine chn_store (by kernel_rfl) 22 (.tmp 29) (.tmp 27) rfl rfl (by kernel_rfl) 0 (.slice A3 (p + (n - (p + 1))) c3) rfl rfl _ rfl (fun w h1 h2 => by simp [go_sem, h1, h2]) ?_
    go_frame
    refine chn_nil ?_
    intro w2 g2 hF
    obtain ⟨w3, ow3, g3, hb3, rfl⟩ := hF
    have hlen : (L.take p ++ L.drop (p + 1)).length = p + (n - (p + 1)) := by rw [List.length_append, List.length_take, List.length_drop, HN.out]; omega
    obtain ⟨N, hNN⟩ : ∃ N, p + (n - (p + 1)) = N := ⟨_, rfl⟩
    rw [hNN] at hlen ow3 g2 ⊢
    have hs5 : KeepT w3.heap.size [47] w3 (w3.setCell ⟨t, 0, none⟩ (.slice A3 N c3)) := KeepT.of_set hb3 _ (.inr (by simp)) (Nat.le_refl _)
    have I5 := O1.out.put (L2 := L.take p ++ L.drop (p + 1)) (v3 := .slice A3 N c3) g2 (by simpa using hb3.set_ 0 _) (by rw [hlen, flat_app]; exact hs5.own ow3 (by decide)) (by omega)
    have OW6 : OwnL (w3.setCell ⟨t, 0, none⟩ (.slice A3 N c3)) w1.heap.size (.slice A3 N c3) (L.take p ++ L.drop (p + 1)) := by unfold OwnL; rw [hlen, flat_app]; exact hs5.own ow3 (by decide)
    have HEE : Hid (RnP w B t (.slice (some ⟨g, 0, none⟩) n c) L r (.returned (.int .i64 0)) (w3.setCell ⟨t, 0, none⟩ (.slice A3 N c3))) := .inl ⟨p, x, HX.out, HK.out, _, rfl, I5.1, (BW1.out.mono hB).trans I5.2.1, (KeepT.of_below BW1.out (Nat.le_refl _)).trans (I5.2.2.less z1), fun g hg => .inr (Nat.le_trans z1 (own_lo OW6 hg).1)⟩
    generalize w3.setCell ⟨t, 0, none⟩ (.slice A3 N c3) = w6 at HEE ⊢
    clear hs5 I5 OW6 g2 hb3 ow3 g3 hne1 hgr
    go_wp2
    go_ret
    exact HEE.out
  · have HEE : Hid (RnP w B t (.slice A n c) L r (.returned (.int .i64 7)) w1) := .inr ⟨hno, _, rfl, O1.out, BW1.out.mono hB, KeepT.of_below BW1.out (Nat.le_refl _), fun _ _ => .inl rfl⟩
    clear hno
    go_wp2
    go_ret
    exact HEE.out
theorem rremL (w : World) {B t : Nat} {L : List R4} {v : Value} (o : IsTr w B t L v) (h : TabOK L) (r : R4) (hB : B ≤ w.heap.size) :
    Calls Try.prog 16 #[.pointer (some ⟨t, 0, none⟩), .agg #[.int .u32 r.x, .int .i64 r.y, .int .u32 r.z, .int .i64 r.u]] w fun e w' => RqP w B t v (remL L r).1 (remL L r).2 e w' := by
  refine (rremoveD w o (Nat.le_trans h.len (by decide)) r hB).mono ?_
  rintro e w' (⟨p, x, hx, hk, hp⟩ | ⟨hno, hp⟩)
  · have h1 : hasK L r = true := (hasK_iff L r).2 ⟨x, List.mem_of_getElem? hx, hk⟩
    unfold remL
    rw [if_pos h1]
    rw [rm_eq h.ord hx hk] at hp
    exact hp
  · have h1 : ¬ hasK L r = true := fun hh => by obtain ⟨x, hx, hk⟩ := (hasK_iff L r).1 hh; exact hno x hx hk
    unfold remL
    rw [if_neg h1]
    exact hp
theorem raddL (w : World) {B t : Nat} {L : List R4} {v : Value} (o : IsTr w B t L v) (h : TabOK L) (r : R4) (hr : InU r) (hB : B ≤ w.heap.size) :
    Calls Try.prog 14 #[.pointer (some ⟨t, 0, none⟩), .agg #[.int .u32 r.x, .int .i64 r.y, .int .u32 r.z, .int .i64 r.u]] w fun e w' => RqP w B t v (addL L r).1 (addL L r).2 e w' := by
  cases hok : okR r with
  | true => exact raddOk w o h r hr hB hok
  | false =>
    have ea : addL L r = (L, 1) := by unfold addL; rw [hok]; rfl
    rw [ea]
    exact raddBad w o r hr hB hok
end Go.Proofs.Ytmboadgmhafedaa
