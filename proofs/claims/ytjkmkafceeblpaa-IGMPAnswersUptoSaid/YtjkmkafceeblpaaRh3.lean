/-
  Groups, the reference: Leave.
-/
import Derived.Test.YtjkmkafceeblpaaRh2
import Derived.Test.YtjkmkafceeblpaaChn
import Derived.Maps.RangeWalk
set_option linter.unusedVariables false
namespace Go.Proofs.Ytjkmkafceeblpaa
open Go.RowKit

theorem IsRh.put {w1 w3 : World} {B h : Nat} {ms ms2 : List Mb} {v v3 : Value} (o : IsRh w1 B h ms v) (g3 : w1.grownBy w3 (some h)) (hb : Blk w3 h 59 #[v3]) (own : w3.ownsRow w1.heap.size 96 4 v3 ms2.length (flatB ms2)) (hB : B ≤ w1.heap.size) :
    IsRh w3 B h ms2 v3 ∧ Below B w1 w3 ∧ KeepT w1.heap.size [59, 96] w1 w3 :=
  ⟨⟨hb, own_base own hB, o.hb⟩, (Below.refl B w1).grown g3 hB (fun i e => by injection e with e; subst e; exact o.hb), KeepT.of_grown (t := 59) g3 (.inr ⟨_, _, o.host, by simp⟩) (Nat.le_refl _)⟩
theorem flatB_app' (a b : List Mb) : flatB (a ++ b) = flatB a ++ flatB b := flatB_app a b
set_option maxRecDepth 10000 in
set_option maxHeartbeats 3200000 in
theorem rleaveK (w : World) {B h : Nat} {ms : List Mb} {v : Value} (o : IsRh w B h ms v) (hs : SortG (ms.map toG)) (hn : ms.length ≤ 16) (a : Int) (hB : B ≤ w.heap.size) :
    Calls Try.prog 47 #[.pointer (some ⟨h, 0, none⟩), .int .u32 a] w fun e w' => RhP w B h (leaveG (ms.map toG) a).1 (leaveG (ms.map toG) a).2.1 (leaveG (ms.map toG) a).2.2 e w' := by
  have HO := Lib.hid o
  have HF := Lib.hid (spotK w o hs (by omega) a)
  unfold leaveG
  by_cases hh : hitG (ms.map toG) a = true
  · rw [if_pos hh]
    have hplt := posG_lt hh
    rw [List.length_map] at hplt
    rw [hh] at HF
    obtain ⟨p, hp⟩ : ∃ p, posG (ms.map toG) a = p := ⟨_, rfl⟩
    rw [hp] at HF hplt ⊢
    obtain ⟨r, hr⟩ : ∃ r, ms[p]? = some r := ⟨_, List.getElem?_eq_getElem hplt⟩
    obtain ⟨A, c, hv, hnc⟩ := o.own.form
    subst hv
    obtain ⟨n, hnn⟩ : ∃ n, ms.length = n := ⟨_, rfl⟩
    obtain ⟨g, hA, _, _, _, _, _⟩ := OwnB.cells o.own hr
    subst hA
    have hrg : ((ms.map toG)[p]?.map Gm.ours) = some r.ours := by rw [List.getElem?_map, hr]; rfl
    rw [hrg]
    rw [hnn] at hnc hplt HO hn
    have HN := Lib.hid hnn
    have HR := Lib.hid hr
    have HG : Hid ((ms.map toG).take p ++ (ms.map toG).drop (p + 1) = (ms.take p ++ ms.drop (p + 1)).map toG) := by show _ = _; rw [List.map_append, List.map_take, List.map_drop]
    have k0 : (0 : Int) ≤ p := by omega
    have k1 : (p : Int) < n := by omega
    have k2 : (p : Int) ≤ c := by omega
    have k3 : (p : Int) + 1 ≤ n := by omega
    have k4 : (0 : Int) ≤ (p : Int) + 1 := by omega
    have hpb : p ≤ 16 := by omega
    have hcase : r.ours = true ∨ r.ours = false := by cases r.ours <;> simp
    clear hh hp hnn hr hrg o hs
    rcases hcase with hou | hou
    all_goals
     rw [hou]
     have HOU := Lib.hid hou
     clear hou
     go_enter Try.func47, Try.ntmps47
     go_wp2_with fail
     refine HF.out.mono ?_
     rintro e w1 ⟨rfl, b1⟩
     have O1 := Lib.hid (HO.out.nx b1)
     have BW1 := Lib.hid b1
     have z1 := b1.size
     have c1 : w1.cell? ⟨h, 0, none⟩ = some (.slice (some ⟨g, 0, none⟩) n c) := O1.out.host.cell 0
     have d3 : w1.cell? ⟨g, p * 4 + 3, none⟩ = some (.bool r.ours) := by
       obtain ⟨g', hA, _, _, _, _, d3⟩ := OwnB.cells O1.out.own HR.out
       injection hA with hA
       injection hA with hA
       subst hA
       exact d3
     rw [HOU.out] at d3
     clear b1
     go_wp2
     have hrb := O1.out.host.lt
     have e1 : ∀ x : Gz w1 h 59 #[.slice (some ⟨g, 0, none⟩) n c], x.w.cell? ⟨h, 0, none⟩ = some (.slice (some ⟨g, 0, none⟩) n c) := fun x => x.z.cell 0
     have hne1 : Nonempty (Gz w1 h 59 #[.slice (some ⟨g, 0, none⟩) n c]) := ⟨⟨w1, World.grownBy.refl _ _, O1.out.host⟩⟩
     have hgr : g ≠ h := fun e => by
       rcases O1.out.own.2 with ⟨h1, _⟩ | ⟨g', _, cur, h1, _, hg, _⟩
       · injection h1 with h1; cases h1
       · injection h1 with h1; injection h1 with h1; injection h1 with h1
         subst h1
         have h2 := O1.out.host
         rw [← e] at h2
         have := hg.symm.trans h2
         simp at this
     have RW : Hid (∀ y : Gz w1 h 59 #[.slice (some ⟨g, 0, none⟩) n c], Reads y.w y.w.heap.size 4 (some ⟨g, 0, none⟩) ms.length (flatB ms)) := fun y => by
       have hw := World.ownsRow.kept (show w1.ownsRow B 96 4 (.slice (some ⟨g, 0, none⟩) n c) ms.length (flatB ms) from O1.out.own) y.h (.inr (by simp only [Value.ownBlock]; intro e; injection e with e; exact hgr e))
       exact OwnB.reads (show OwnB y.w B (.slice (some ⟨g, 0, none⟩) n c) ms from hw)
     have RA : Hid (∀ y : Gz w1 h 59 #[.slice (some ⟨g, 0, none⟩) n c], Reads y.w y.w.heap.size 4 (some ⟨g, 0, none⟩) p (flatB (ms.take p))) := fun y => reads_take (RW.out y) (by rw [HN.out]; omega)
     obtain ⟨AX, hAX⟩ : ∃ AX : Option Addr, AX = if c = p + 1 then some ⟨g, 0, none⟩ else (some (⟨g, 0, none⟩ : Addr)).map (·.add ((p + 1) * 4)) := ⟨_, rfl⟩
     have HAX := Lib.hid hAX
     have RD : Hid (∀ y : Gz w1 h 59 #[.slice (some ⟨g, 0, none⟩) n c], Reads y.w y.w.heap.size 4 AX (n - (p + 1)) (flatB (ms.drop (p + 1)))) := fun y => by
       have h9 := reads_drop' (RW.out y) HN.out (p := p + 1) (c := c) (by omega) hnc
       unfold cutB at h9
       rw [← hAX] at h9
       exact h9
     clear hAX
     refine wp_region_chn h 59 #[.slice (some ⟨g, 0, none⟩) n c] 19 (by kernel_rfl) (by kernel_rfl) (by kernel_rfl) (by kernel_rfl) O1.out.host ?_
     iterate 1 (refine chn_early (by kernel_rfl) (by kernel_rfl) (by kernel_rfl) ?_; intro K hK; go_big_quiet_op; go_big_quiet_on)
     refine chn_lit0 (by kernel_rfl) 57 96 rfl (fun w => by kernel_rfl) (by decide) hrb 4 (fun v1 hv1 => ?_)
     obtain ⟨A1, c1', rfl⟩ := hv1
     go_frame
     iterate 6 (refine chn_early (by kernel_rfl) (by kernel_rfl) (by kernel_rfl) ?_; intro K hK; go_big_quiet_op; go_big_quiet_on)
     refine chn_app stMb (by kernel_rfl) (.tmp 26) (.tmp 32) rfl (by decide) (by kernel_rfl) hrb (.slice A1 0 c1') 0 [] rfl (fun w h => h) (some ⟨g, 0, none⟩) p c (flatB (ms.take p)) rfl RA.out (flatB_one _) (by omega) (by omega) p (Nat.zero_add p) _ (List.nil_append _) (fun v2 hv2 => ?_)
     obtain ⟨A2, c2, rfl⟩ := hv2
     go_frame
     iterate 6 (refine chn_early (by kernel_rfl) (by kernel_rfl) (by kernel_rfl) ?_; intro K hK; go_big_quiet_op; go_big_quiet_on)
     refine chn_early (by kernel_rfl) (by kernel_rfl) (by kernel_rfl) ?_
     intro K hK
     refine quiet_cutL 4 57 (.tmp 37) (.tmp 39) rfl rfl (fun w => by kernel_rfl) (some ⟨g, 0, none⟩) n c (p + 1) .i64 rfl rfl (by omega) hnc AX HAX.out ?_
     refine hK _ ?_
     clear hK K
     go_frame
     refine chn_app stMb (by kernel_rfl) (.tmp 33) (.tmp 40) rfl (by decide) (by kernel_rfl) hrb (.slice A2 p c2) p (flatB (ms.take p)) rfl (fun w h => h) _ (n - (p + 1)) (c - (p + 1)) (flatB (ms.drop (p + 1))) rfl RD.out (flatB_one _) (by omega) (by omega) _ rfl _ rfl (fun v3 hv3 => ?_)
     obtain ⟨A3, c3, rfl⟩ := hv3
     go_frame
     iterate 2 (refine chn_early (by kernel_rfl) (by kernel_rfl) (by kernel_rfl) ?_; intro K hK; go_big_quiet_op; go_big_quiet_on)
     refine chn_store (by kernel_rfl) 57 (.tmp 43) (.tmp 41) rfl rfl (by kernel_rfl) 0 (.slice A3 (p + (n - (p + 1))) c3) rfl rfl _ rfl (fun w h1 h2 => by simp [go_sem, h1, h2]) ?_
     go_frame
     refine chn_nil ?_
     intro w2 g2 hF
     obtain ⟨w3, ow3, g3, hb3, rfl⟩ := hF
     have hlen : (ms.take p ++ ms.drop (p + 1)).length = p + (n - (p + 1)) := by rw [List.length_append, List.length_take, List.length_drop, HN.out]; omega
     obtain ⟨N, hNN⟩ : ∃ N, p + (n - (p + 1)) = N := ⟨_, rfl⟩
     rw [hNN] at hlen ow3 g2 ⊢
     have hs5 : KeepT w3.heap.size [59] w3 (w3.setCell ⟨h, 0, none⟩ (.slice A3 N c3)) := KeepT.of_set hb3 _ (.inr (by simp)) (Nat.le_refl _)
     have I5 := O1.out.put (ms2 := ms.take p ++ ms.drop (p + 1)) (v3 := .slice A3 N c3) g2 (by simpa using hb3.set_ 0 _) (by rw [hlen, flatB_app]; exact hs5.own ow3 (by decide)) (by omega)
     have hz5 := g2.size
     have FI := Lib.hid I5.1
     have FB : Hid (Below B w (w3.setCell ⟨h, 0, none⟩ (.slice A3 N c3))) := (BW1.out.mono hB).trans I5.2.1
     have FK : Hid (KeepT w.heap.size [59, 96] w (w3.setCell ⟨h, 0, none⟩ (.slice A3 N c3))) := (KeepT.of_below BW1.out (Nat.le_refl _)).trans (I5.2.2.less z1)
     have FZ : Hid (w.heap.size ≤ (w3.setCell ⟨h, 0, none⟩ (.slice A3 N c3)).heap.size) := by show _ ≤ _; omega
     generalize w3.setCell ⟨h, 0, none⟩ (.slice A3 N c3) = w6 at FI FB FK FZ ⊢
     clear hs5 I5 hz5 g2 hb3 ow3 g3 hne1 hgr
     go_wp2
     refine bodyPost_ret (results_tmp2 rfl _ _ _) rfl ?_
     first
       | exact ⟨_, _, _, rfl, OutM.nil _ _, FI.out, HG.out.symm, FB.out, FK.out⟩
       | exact ⟨_, _, _, rfl, own_lit _ #[.int .i64 23, .int .i64 0, .int .u32 a] 1 rfl FZ.out (by unfold maxLen; omega) rfl, FI.out.nx (al (rf _) _), HG.out.symm, FB.out.trans ((al (rf _) _).mono (by have := FZ.out; omega)), FK.out.trans (KeepT.of_below (al (rf _) _) FZ.out)⟩
  · rw [if_neg hh]
    have hf : hitG (ms.map toG) a = false := by simpa using hh
    rw [hf] at HF
    clear hh hf o hs
    go_enter Try.func47, Try.ntmps47
    go_wp2_with fail
    refine HF.out.mono ?_
    rintro e w1 ⟨rfl, b1⟩
    go_wp2
    refine bodyPost_ret (results_tmp2 rfl _ _ _) rfl ?_
    exact RhP.same HO.out b1 hB
end Go.Proofs.Ytjkmkafceeblpaa
