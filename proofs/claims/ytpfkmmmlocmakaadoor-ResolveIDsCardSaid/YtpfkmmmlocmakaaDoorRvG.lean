/-
  Resolve: goes, where nothing is kept of the name: a new question.
-/
import Derived.Test.YtpfkmmmlocmakaaDoorRvB
import Derived.WalkMore
import Derived.Test.YtpfkmmmlocmakaaDoorChd
set_option linter.unusedVariables false
namespace Go.Proofs.YtpfkmmmlocmakaaDoor
open Go.RowKit Go.Maps

theorem upd_new {z : Rz} {g : Nat} {q q' : Qn} {QA : Option Addr} {qc : Nat} (h : g ∉ z.qs.map (·.1)) : (({ z with qs := z.qs ++ [(g, q)], QA := QA, qc := qc } : Rz).upd g q').qs = z.qs ++ [(g, q')] := by
  unfold Rz.upd
  show (z.qs ++ [(g, q)]).map _ = _
  rw [List.map_append]
  congr 1
  · refine (List.map_congr_left fun p hp => ?_).trans (List.map_id _)
    rw [if_neg]
    · rfl
    · intro e
      exact h (List.mem_map.2 ⟨p, hp, e⟩)
  · simp
def Qn.zero (q : Qn) : Qn := { q with asked := 0, server := 0 }
theorem KeepT.out4 {n : Nat} {w w' : World} {ts us : List TypeId} (h : KeepT n ts w w') (k : ∀ t ∈ ts, t ∈ us) : KeepT n us w w' := h.mono k
theorem IsRv.isB {w : World} {B rb : Nat} {z : Rz} (h : IsRv w B rb z) : ∀ p ∈ z.qs.map (·.1), IsB w p := fun p hp => by
  obtain ⟨x, hx, rfl⟩ := List.mem_map.1 hp
  exact ⟨_, _, (h.q x hx).1⟩
theorem IsRv.add {w w' : World} {B rb g : Nat} {z : Rz} {q : Qn} {QA : Option Addr} {qc : Nat} (h : IsRv w B rb z) (k : KeepT w.heap.size [64, 66] w w') (hb : Blk w' rb 64 ({ z with qs := z.qs ++ [(g, q)], QA := QA, qc := qc } : Rz).cs)
    (own : w'.ownsRow B 66 1 (.slice QA (z.qs.length + 1) qc) (z.qs.length + 1) ((z.qs.map fun p => ptr p.1) ++ [ptr g])) (hg : Blk w g 68 q.cs) (hB : B ≤ g) (hn : g ∉ z.qs.map (·.1)) : IsRv w' B rb { z with qs := z.qs ++ [(g, q)], QA := QA, qc := qc } := by
  refine ⟨hb, h.lo, k.own h.sv (by decide), ?_, fun p hp => ?_, ?_⟩
  · show w'.ownsRow B _ 1 (.slice QA (z.qs ++ [(g, q)]).length qc) (z.qs ++ [(g, q)]).length ((z.qs ++ [(g, q)]).map fun p => ptr p.1)
    rw [List.length_append, List.map_append]
    exact own
  · rcases List.mem_append.1 hp with hp | hp
    · exact ⟨k.blk_ (h.q p hp).1 (by decide), (h.q p hp).2⟩
    · obtain rfl := List.mem_singleton.1 hp
      exact ⟨k.blk_ hg (by decide), hB⟩
  · show ((z.qs ++ [(g, q)]).map (·.1)).Nodup
    rw [List.map_append, List.nodup_append]
    refine ⟨h.nd, by simp, fun a ha b hb e => ?_⟩
    simp only [List.map_cons, List.map_nil, List.mem_singleton] at hb
    subst hb e
    exact hn ha
def GoP (w : World) (B N wb rb g : Nat) (z : Rz) (now draw : Int) (fs : List Fd) (FA : Option Addr) (fc : Nat) (ds : List Dg) (q : Qn) (e : Ending) (w' : World) : Prop :=
  e = .returned (.tuple #[]) ∧ ∃ (QA : Option Addr) (qc : Nat) (A : Option Addr) (k : Nat) (DA' : Option Addr) (dc' : Nat),
    IsRv w' B rb { z with sent := z.sent + 1, qs := z.qs ++ [(g, q.zero.ask (idV draw z.sent) now)], QA := QA, qc := qc } ∧
    IsWk w' N wb rb now draw fs FA fc (ds ++ [⟨z.port, svAt z 0, askB (idV draw z.sent) q.name, A, k⟩]) DA' dc' ∧
    KeepT w.heap.size [68, 64, 71, 36, 66] w w' ∧ KeepT N [68, 64, 66] w w' ∧ Below B w w'
theorem stQp : SliceTy Tryd.prog 61 66 1 8 (.pointer none) := ⟨Tryd.underlying61, by kernel_rfl, rfl, by omega⟩
set_option maxRecDepth 100000 in
set_option maxHeartbeats 1600000 in
theorem goesE (w : World) (B N wb rb g : Nat) (z : Rz) (now draw : Int) (fs : List Fd) (FA : Option Addr) (fc : Nat) (ds : List Dg) (DA : Option Addr) (dc : Nat) (q : Qn)
    (hR : IsRv w B rb z) (hW : IsWk w N wb rb now draw fs FA fc ds DA dc) (hq : Blk w g 68 q.cs) (hgB : B ≤ g) (hg : g ∉ z.qs.map (·.1)) (hK : KE w z.km) (hm : MaxL w) (hql : z.qs.length < 32)
    (hn : isN q.name.data.toList = true) (hns : q.name.size ≤ 3000) (s1 : 1 ≤ z.sv.length) (hsv : z.sv.length ≤ 3) (n0 : 0 ≤ now) (n1 : now ≤ 1152921504606846976) (e0 : 0 ≤ z.sent) (e1 : z.sent ≤ 1152921504606846976)
    (hds : ds.length ≤ 1000000) (hBN : B ≤ N) (hN : N ≤ w.heap.size) (hB0 : 0 < B) :
    Calls Tryd.prog 20 #[.pointer (some ⟨wb, 0, none⟩), .pointer (some ⟨g, 0, none⟩)] w (GoP w B N wb rb g z now draw fs FA fc ds q) := by
  have HH := Lib.hid (haveE w wb rb z.km q.name (by omega) _ _ hW.b rfl hR.b rfl hK)
  have q1 := hq.cell 1
  simp only [Qn.cs, List.getElem?_toArray, List.getElem?_cons_zero, List.getElem?_cons_succ] at q1
  have HR := Lib.hid hR
  have HWk := Lib.hid hW
  have HQ := Lib.hid hq
  have HM := Lib.hid hm
  have HK := Lib.hid hK
  have HG := Lib.hid hg
  obtain ⟨wo, hwo⟩ : ∃ wo, wo = w := ⟨_, rfl⟩
  have HWO := Lib.hid hwo
  clear hR hW hq hm hK hg hwo
  go_enter Tryd.func20, Tryd.ntmps20
  go_wp2
  go_step3
  go_wp2
  go_step3
  go_wp2
  go_loopw [4] (fun v ws => Hid (ws = wo)) (fun _ _ => 0)
  case atStart => exact HWO.out.symm
  case round =>
    have ew : wr = w := hrel.out.trans HWO.out
    subst ew
    go_wp2_with fail
    refine HH.out.mono ?_
    rintro e w1 ⟨rfl, b1⟩
    have R1 := Lib.hid (HR.out.nx b1)
    have W1 := Lib.hid (HWk.out.nx b1)
    have Q1 := Lib.hid (HQ.out.nx b1)
    have K1 := Lib.hid (HK.out.nx b1)
    have B1 := Lib.hid b1
    have x0 : w1.cell? ⟨wb, 0, none⟩ = some (.pointer (some ⟨rb, 0, none⟩)) := W1.out.b.cell 0
    have r3 : w1.cell? ⟨rb, 3, none⟩ = some (.slice z.QA z.qs.length z.qc) := R1.out.b.cell 3
    have HC := containsC w1 z.QA z.qc (z.qs.map (·.1)) g (by rw [List.length_map, ← map_ptr]; exact Reads.of_own R1.out.qs) (by rw [List.length_map]; omega) ⟨_, _, Q1.out⟩ R1.out.isB
    rw [List.length_map, show (z.qs.map (·.1)).contains g = false from by rw [Bool.eq_false_iff]; intro h; rw [List.contains_iff_mem] at h; exact HG.out h] at HC
    have HC1 := Lib.hid HC
    have hl1 : ¬ (32 : Int) ≤ z.qs.length := by omega
    clear HC b1 q1 HH
    go_wp2_with fail
    refine HC1.out.mono ?_
    rintro e w2 ⟨rfl, hw2⟩
    have hw3 := hw2.symm
    subst hw3
    clear hw2 HC1
    go_wp2
    obtain ⟨Dv, hDv⟩ : ∃ Dv, Dv = Value.slice z.QA z.qs.length z.qc := ⟨_, rfl⟩
    obtain ⟨zcs, hzcs⟩ : ∃ zcs, zcs = z.cs := ⟨_, rfl⟩
    have own_ne : ∀ {t : TypeId} {i : Nat} {cs : Array Value}, Blk w1 i t cs → 66 ≠ t → ¬ (Dv.ownBlock = some i) := fun {t i cs} hb hne => by rw [hDv]; exact own_blk_ne R1.out.qs hb hne
    have nrw : wb ≠ rb := W1.out.b.ne_ R1.out.b (by decide)
    have e0 : ∀ x : Gd w1 rb (fun i => Dv.ownBlock = some i) 64 zcs, x.w.cell? ⟨wb, 0, none⟩ = some (.pointer (some ⟨rb, 0, none⟩)) := fun x => (x.blk W1.out.b nrw (own_ne W1.out.b (by decide))).cell 0
    have e3 : ∀ x : Gd w1 rb (fun i => Dv.ownBlock = some i) 64 zcs, x.w.cell? ⟨rb, 3, none⟩ = some (.slice z.QA z.qs.length z.qc) := fun x => by rw [x.z.cell, hzcs]; rfl
    have RBc : Hid (Blk w1 rb 64 zcs) := by show Blk _ _ _ _; rw [hzcs]; exact R1.out.b
    have hne1 : Nonempty (Gd w1 rb (fun i => Dv.ownBlock = some i) 64 zcs) := ⟨⟨w1, Cd.refl _ _ _, RBc.out⟩⟩
    have ODW : Dv.ownBlock ≠ some rb := own_ne R1.out.b (by decide)
    have HDV := Lib.hid hDv
    have HZC := Lib.hid hzcs
    have h1B : Hid (B ≤ w1.heap.size) := Nat.le_trans hBN (Nat.le_trans hN B1.out.size)
    clear own_ne nrw hDv hzcs x0 r3
    refine wp_region_chd rb (fun i => Dv.ownBlock = some i) 64 zcs 16 (by kernel_rfl) (by kernel_rfl) (by kernel_rfl) (by kernel_rfl) RBc.out ?_
    iterate 12 (refine chd_early (by kernel_rfl) (by kernel_rfl) (by kernel_rfl) ?_; intro K hK; go_big_quiet_op; go_big_quiet_on)
    refine chd_lit w1.drew (.cells #[.pointer (some ⟨g, 0, none⟩)] 66) (.slice (some ⟨w1.heap.size, 0, none⟩) 1 1) (by kernel_rfl) (by kernel_rfl) (by first | rfl | (unfold execOp; simp [go_sem])) ?_
    go_frame
    have OW1 : Hid ((w1.drew.alloc (.cells #[.pointer (some ⟨g, 0, none⟩)] 66)).ownsRow B 66 1 Dv z.qs.length (z.qs.map fun p => ptr p.1)) := by
      show World.ownsRow _ _ _ _ _ _ _
      rw [HDV.out]
      exact (R1.out.qs.drew).alloc _
    refine chd_app stQp (w1.drew.alloc (.cells #[.pointer (some ⟨g, 0, none⟩)] 66)) (by kernel_rfl) (.tmp 81) (.tmp 83) rfl B Dv z.qs.length (z.qs.map fun p => ptr p.1) HDV.out.symm OW1.out (fun i h => .inl h) ODW (some ⟨w1.heap.size, 0, none⟩) 1 1 [ptr g] rfl (Reads.one (Blk.new w1.drew _ _)) (by intro u hu; simp only [List.mem_singleton] at hu; rw [hu]; rfl) (by omega) (by omega) (Nat.le_trans h1B.out (by simp)) (fun v6 w6 own6 gr6 at6 bel6 => ?_)
    obtain ⟨Q6, n6, rfl⟩ := own_slice own6
    have O6 := Lib.hid own6
    have G6 := Lib.hid gr6
    have BL6 := Lib.hid bel6
    have RB6 : Hid (Blk w6 rb 64 zcs) := ((RBc.out.drew).alloc _).grown gr6 (fun e => ODW e.symm)
    clear own6 gr6 at6 bel6
    go_frame
    iterate 2 (refine chd_early (by kernel_rfl) (by kernel_rfl) (by kernel_rfl) ?_; intro K hK; go_big_quiet_op; go_big_quiet_on)
    have h1 : w6.cell? ⟨rb, 3, none⟩ = some (.slice z.QA z.qs.length z.qc) := by rw [RB6.out.cell, HZC.out]; rfl
    have h2 := RB6.out.frozen 3
    refine chd_store w6 (by kernel_rfl) 61 (.tmp 86) (.tmp 84) rfl rfl 3 (.slice Q6 (z.qs.length + 1) n6) rfl rfl (by simp [go_sem, h1, h2]) ?_
    go_frame
    refine chd_nil ?_
    intro wz hC hz
    have RZ0 := RB6.out.set_ 3 (.slice Q6 (z.qs.length + 1) n6)
    rw [← hz] at RZ0
    have RZ : Hid (Blk wz rb 64 ({ z with qs := z.qs ++ [(g, q)], QA := Q6, qc := n6 } : Rz).cs) := by
      show Blk _ _ _ _
      rw [HZC.out] at RZ0
      unfold Rz.cs
      rw [List.length_append]
      exact RZ0
    have OWs : (w1.drew.alloc (.cells #[.pointer (some ⟨g, 0, none⟩)] 66)).ownsRow B 66 1 (.slice z.QA z.qs.length z.qc) z.qs.length (z.qs.map fun p => ptr p.1) := by rw [← HDV.out]; exact OW1.out
    have G6s := G6.out
    rw [HDV.out] at G6s
    have kb : Below w1.heap.size w1 (w1.drew.alloc (.cells #[.pointer (some ⟨g, 0, none⟩)] 66)) := al (rf w1).drew _
    have hs1 := kb.size
    have hs2 := G6s.size
    have KZ0 : KeepT w1.heap.size [64, 66] w1 wz := by
      rw [hz]
      exact ((KeepT.of_below kb (Nat.le_refl _)).trans (KeepT.of_row G6s OWs (.inr (by simp)) (by omega))).trans (KeepT.of_set RB6.out _ (.inr (by simp)) (by omega))
    have OZ0 : wz.ownsRow B 66 1 (.slice Q6 (z.qs.length + 1) n6) (z.qs.length + 1) ((z.qs.map fun p => ptr p.1) ++ [ptr g]) := by
      rw [hz]
      exact (KeepT.of_set (i := 3) (ts := [64]) RB6.out (.slice Q6 (z.qs.length + 1) n6) (.inr (by simp)) (Nat.le_refl _)).own O6.out (by decide)
    have R2 := Lib.hid (R1.out.add KZ0 RZ.out OZ0 Q1.out hgB HG.out)
    have W2 := Lib.hid (W1.out.keep KZ0 (by decide) (by decide) (by decide) (by decide) (by decide))
    have Q2 := Lib.hid (KZ0.blk_ Q1.out (by decide))
    have KZ := Lib.hid KZ0
    have BZ : Hid (Below B w1 wz) := by
      show Below _ _ _
      rw [hz]
      exact ((kb.mono h1B.out).trans BL6.out).setCell R1.out.lo _
    have MZ : Hid (MaxL wz) := (HM.out.below B1.out (by omega)).below BZ.out hB0
    clear e0 e3 hne1 h1 h2 hC hz RZ0 OWs G6s kb hs1 hs2 KZ0 OZ0 O6 G6 BL6 RB6 OW1 ODW RBc
    have T0 := Lib.hid (T4.start Q2.out R2.out.b W2.out.b)
    have q5 := Q2.out.cell 5
    have q4 := Q2.out.cell 4
    have f5 := Q2.out.frozen 5
    have f4 := Q2.out.frozen 4
    simp only [Qn.cs, List.getElem?_toArray, List.getElem?_cons_zero, List.getElem?_cons_succ] at q4 q5
    go_wp2_with fail
    have T1 : Hid (T4 wz ((wz.setCell ⟨g, 5, none⟩ (.int .i64 0)).setCell ⟨g, 4, none⟩ (.int .i64 0)) g rb wb q.zero.cs ({ z with qs := z.qs ++ [(g, q)], QA := Q6, qc := n6 } : Rz).cs #[ptr rb, .int .i64 now, .int .i64 draw, .slice FA fs.length fc, .slice DA ds.length dc]) := (T0.out.setG 5 _).setG 4 _
    generalize (wz.setCell ⟨g, 5, none⟩ (.int .i64 0)).setCell ⟨g, 4, none⟩ (.int .i64 0) = w7 at T1 ⊢
    have R7 := Lib.hid (R2.out.of4 (s := z.sent) T1.out ⟨q, by simp⟩)
    have W7 := Lib.hid (W2.out.of4 T1.out Q2.out R2.out.b)
    have K7 := Lib.hid (T1.out.keep (n := wz.heap.size) Q2.out R2.out.b)
    have B7 := Lib.hid (T1.out.below hgB R2.out.lo)
    have M7 := Lib.hid (MZ.out.of4 T1.out Q2.out R2.out.b)
    have hz7 := B7.out.size
    have hz1 := BZ.out.size
    have hz0 := B1.out.size
    refine (asksC w7 B N wb rb g { ({ z with qs := z.qs ++ [(g, q)], QA := Q6, qc := n6 } : Rz).upd g q.zero with sent := z.sent } now draw fs FA fc ds DA dc q.zero R7.out W7.out (List.mem_map.2 ⟨(g, q), by simp, if_pos rfl⟩) M7.out hn hns (Int.le_refl 0) (by show (0 : Int) < z.sv.length; omega) hsv n0 n1 (Int.le_refl 0) (by show (0 : Int) ≤ 1000; omega) e0 e1 hds hBN (by omega)).mono ?_
    rintro e w8 ⟨rfl, A8, k8, D8, d8, R8, W8, K8, N8, B8⟩
    have HR8 := Lib.hid R8
    have HW8 := Lib.hid W8
    have HK8 := Lib.hid K8
    have HN8 := Lib.hid N8
    have HB8 := Lib.hid B8
    clear R8 W8 K8 N8 B8 q4 q5 f4 f5
    go_wp2
    go_end0
    have eq8 : ({ ({ ({ z with qs := z.qs ++ [(g, q)], QA := Q6, qc := n6 } : Rz).upd g q.zero with sent := z.sent } : Rz).upd g (q.zero.ask (idV draw z.sent) now) with sent := z.sent + 1 } : Rz) = { z with sent := z.sent + 1, qs := z.qs ++ [(g, q.zero.ask (idV draw z.sent) now)], QA := Q6, qc := n6 } := by
      have e1 := upd_new (q := q) (q' := q.zero) (QA := Q6) (qc := n6) HG.out
      have e2 := upd_new (q := q.zero) (q' := q.zero.ask (idV draw z.sent) now) (QA := Q6) (qc := n6) HG.out
      unfold Rz.upd at e1 e2 ⊢
      simp only at e1 e2 ⊢
      rw [e1, e2]
    have r8 := HR8.out
    rw [eq8] at r8
    have kk : KeepT wr.heap.size [68, 64, 71, 36, 66] wr w8 :=
      (((KeepT.of_below B1.out (Nat.le_refl _)).trans ((KZ.out.mono (by decide)).less hz0)).trans ((K7.out.mono (by decide)).less (by omega))).trans ((HK8.out.mono (by decide)).less (by omega))
    have kn : KeepT N [68, 64, 66] wr w8 :=
      (((KeepT.of_below B1.out hN).trans ((KZ.out.mono (by decide)).less (by omega))).trans ((K7.out.mono (by decide)).less (by omega))).trans (HN8.out.mono (by decide))
    exact ⟨rfl, Q6, n6, A8, k8, D8, d8, r8, HW8.out, kk, kn, (((B1.out.mono (by omega)).trans BZ.out).trans B7.out).trans HB8.out⟩
end Go.Proofs.YtpfkmmmlocmakaaDoor
