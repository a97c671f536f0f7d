/-
  Resolve: over what is kept (merged: questions in no list, new questions, Ask; Ask of no name; New with its map).
-/
import Derived.Test.YtpfkmmmlocmakaaDoorRk1
import Derived.Test.YtpfkmmmlocmakaaDoorRvQ
set_option linter.unusedVariables false
namespace Go.Proofs.YtpfkmmmlocmakaaDoor
section
open Go.RowKit Go.Maps Go.Proofs.YtpfkmmmlocmakaaDoor.Chq

set_option maxRecDepth 100000 in
theorem index0 (w : World) (bx : Nat) (A : Option Addr) (c : Nat) :
    Calls Tryd.prog 72 #[.slice A 0 c, .func (.func 59) #[] #[.pointer (some ⟨bx, 0, none⟩)]] w fun e w' => e = .returned (.int .i64 (-1)) ∧ w' = w := by
  obtain ⟨wz, hwz⟩ : ∃ wz, wz = w := ⟨_, rfl⟩
  have HWZ := Lib.hid hwz
  clear hwz
  go_enter Tryd.func72, Tryd.ntmps72
  go_wp2
  go_loopw [8] (fun kv ws => kv = .int .i64 0 ∧ Hid (ws = wz)) (fun _ _ => 0)
  case atStart => exact ⟨rfl, HWZ.out.symm⟩
  case round =>
    obtain ⟨rfl, HW⟩ := hrel
    have ew : wr = w := HW.out.trans HWZ.out
    subst ew
    go_wp2
    go_ret
    exact ⟨rfl, rfl⟩
set_option maxRecDepth 100000 in
theorem delete0 (w : World) (bx : Nat) (A : Option Addr) (c : Nat) :
    Calls Tryd.prog 58 #[.slice A 0 c, .func (.func 59) #[] #[.pointer (some ⟨bx, 0, none⟩)]] w fun e w' => e = .returned (.slice A 0 c) ∧ w' = w := by
  have HI := Lib.hid (index0 w bx A c)
  go_enter Tryd.func58, Tryd.ntmps58
  go_wp2_with fail
  refine HI.out.mono ?_
  rintro e w2 ⟨rfl, hw2⟩
  have hw3 := hw2.symm
  subst hw3
  clear hw2 HI
  go_wp2
  go_ret
  exact ⟨rfl, rfl⟩
set_option maxRecDepth 100000 in
set_option maxHeartbeats 1600000 in
theorem endsN (w : World) (B N wb rb g : Nat) (z : Rz) (now draw : Int) (fs : List Fd) (FA : Option Addr) (fc : Nat) (ds : List Dg) (DA : Option Addr) (dc : Nat) (q : Qn) (err : Int) (Bx : Nat) (AD : Option Addr) (ads : List Int) (kd : Nat)
    (hR : IsRv w B rb z) (hW : IsWk w N wb rb now draw fs FA fc ds DA dc) (hqs : z.qs = []) (hq : Blk w g 68 q.cs) (hAd : w.ownsRow Bx 33 1 (.slice AD ads.length kd) ads.length (ads.map (Value.int .u32))) (hads : ads.length ≤ 1000000) (hfs : fs.length ≤ 1000000) (hBN : B ≤ N) (hN : N ≤ w.heap.size) :
    Calls Tryd.prog 42 #[.pointer (some ⟨wb, 0, none⟩), .pointer (some ⟨g, 0, none⟩), .int .i64 err, .slice AD ads.length kd] w (fun e w' => ∃ (A' : Option Addr) (k' : Nat), EndP w B N wb rb z now draw fs ds DA dc ⟨q.first, err, ads, A', k'⟩ e w') := by
  have b1 : Below w.heap.size w (w.alloc (.cells #[.pointer (some ⟨g, 0, none⟩)] 66)) := al (rf w) _
  have BX : Blk (w.alloc (.cells #[.pointer (some ⟨g, 0, none⟩)] 66)) w.heap.size 66 #[.pointer (some ⟨g, 0, none⟩)] := Blk.new _ _ _
  have HAd := Lib.hid hAd
  have had0 : Hid (AD = none → ads.length = 0) := fun e => by
    rcases Nat.eq_zero_or_pos ads.length with h | h
    · exact h
    · obtain ⟨r2, cap2, hv2, _⟩ := own_form hAd h
      injection hv2 with a
      rw [e] at a
      cases a
  have HR := Lib.hid hR
  have HWk := Lib.hid hW
  have HQ := Lib.hid hq
  have HQS := Lib.hid hqs
  have HB1 := Lib.hid b1
  have HBX := Lib.hid BX
  clear hAd hR hW hq hqs b1 BX
  go_enter Tryd.func42, Tryd.ntmps42
  go_wp2
  generalize w.alloc (.cells #[.pointer (some ⟨g, 0, none⟩)] 66) = w1 at HB1 HBX ⊢
  have R1 := Lib.hid (HR.out.nx HB1.out)
  have W1 := Lib.hid (HWk.out.nx HB1.out)
  have Q1 := Lib.hid (HQ.out.nx HB1.out)
  have hz1 := HB1.out.size
  obtain ⟨zcs, hzcs⟩ : ∃ zcs, zcs = z.cs := ⟨_, rfl⟩
  have nrw : wb ≠ rb := W1.out.b.ne_ R1.out.b (by decide)
  obtain ⟨QA, hQA⟩ : ∃ QA, QA = z.QA := ⟨_, rfl⟩
  obtain ⟨cap, hQC⟩ : ∃ cap, cap = z.qc := ⟨_, rfl⟩
  have HQA := Lib.hid hQA
  have HQC := Lib.hid hQC
  have e0 : ∀ x : Ge w1 rb (fun _ => False) 64 zcs, x.w.cell? ⟨wb, 0, none⟩ = some (.pointer (some ⟨rb, 0, none⟩)) := fun x => (x.blk W1.out.b nrw (fun h => h)).cell 0
  have e3 : ∀ x : Ge w1 rb (fun _ => False) 64 zcs, x.w.cell? ⟨rb, 3, none⟩ = some (.slice QA 0 cap) := fun x => by
    rw [x.z.cell, hzcs]
    show some (Value.slice z.QA z.qs.length z.qc) = _
    rw [← hQA, ← hQC, HQS.out]; rfl
  have RBc : Hid (Blk w1 rb 64 zcs) := by show Blk _ _ _ _; rw [hzcs]; exact R1.out.b
  have hne1 : Nonempty (Ge w1 rb (fun _ => False) 64 zcs) := ⟨⟨w1, Ce.refl _ _ _, RBc.out⟩⟩
  have HD := delete0 w1.drew w.heap.size QA cap
  have HD1 := Lib.hid HD
  have HZC := Lib.hid hzcs
  clear HD nrw hQA hQC hzcs
  refine wp_region_che rb (fun _ => False) 64 zcs 15 (by kernel_rfl) (by kernel_rfl) (by kernel_rfl) (by kernel_rfl) RBc.out ?_
  iterate 11 (refine che_early (by kernel_rfl) (by kernel_rfl) (by kernel_rfl) ?_; intro K hK; go_big_quiet_op; go_big_quiet_on)
  refine che_one w1.drew w1.drew (.func (.func 59) #[] #[.pointer (some ⟨w.heap.size, 0, none⟩)]) (by kernel_rfl) (by kernel_rfl) (.inl (by first | rfl | (unfold execOp; simp [go_sem]))) (fun h => h) (fun _ h => h) ?_
  go_frame
  refine che_call w1.drew w1.drew (.slice QA 0 cap) 58 #[.slice QA 0 cap, .func (.func 59) #[] #[.pointer (some ⟨w.heap.size, 0, none⟩)]] (by kernel_rfl) (by kernel_rfl) (by kernel_rfl) HD1.out (fun h => h) (fun _ h => h) ?_
  go_frame
  iterate 2 (refine che_early (by kernel_rfl) (by kernel_rfl) (by kernel_rfl) ?_; intro K hK; go_big_quiet_op; go_big_quiet_on)
  have RB6 : Hid (Blk w1.drew rb 64 zcs) := RBc.out.drew
  have h1 : w1.drew.cell? ⟨rb, 3, none⟩ = some (.slice QA 0 cap) := by
    rw [RB6.out.cell, HZC.out]
    show some (Value.slice z.QA z.qs.length z.qc) = _
    rw [← HQA.out, ← HQC.out, HQS.out]; rfl
  have h2 := RB6.out.frozen 3
  refine che_store w1.drew (by kernel_rfl) 61 (.tmp 22) (.tmp 20) rfl rfl 3 (.slice QA 0 cap) rfl rfl (by generalize w1.drew = wq at h1 h2 ⊢; simp [go_sem, h1, h2]) ?_
  go_frame
  refine che_nil ?_
  intro wz hC hz
  have KZ0 : ∀ n ts, n ≤ w1.heap.size → (n ≤ B ∨ (64 ∈ ts ∧ 66 ∈ ts)) → KeepT n ts w1 wz := fun n ts hn ht => by
    rw [hz]
    exact (KeepT.of_below (rf w1).drew hn).trans (KeepT.of_set RB6.out _ (by rcases ht with h | h; exact .inl (by have := R1.out.lo; omega); exact .inr h.1) hn)
  have KZ1 := Lib.hid (KZ0 w1.heap.size [64, 66] (Nat.le_refl _) (.inr ⟨by simp, by simp⟩))
  have BZ : Hid (Below B w1 wz) := by
    show Below _ _ _
    rw [hz]
    exact ((Below.refl B w1).drew).setCell R1.out.lo _
  have RZ : Hid (IsRv wz B rb { z with qs := [], QA := QA, qc := cap }) := by
    refine ⟨?_, R1.out.lo, KZ1.out.own R1.out.sv (by decide), ?_, by simp, by simp⟩
    · have h := RB6.out.set_ 3 (.slice QA 0 cap)
      rw [← hz, HZC.out] at h
      exact h
    · have ho := R1.out.qs
      rw [HQS.out, ← HQA.out, ← HQC.out] at ho
      have h2 := (KeepT.of_set (i := 3) (ts := [64]) RB6.out (.slice QA 0 cap) (.inr (by simp)) (Nat.le_refl _)).own (ho.drew) (by decide)
      rw [← hz] at h2
      exact h2
  have WZ := Lib.hid (W1.out.keep KZ1.out (by decide) (by decide) (by decide) (by decide) (by decide))
  have ADZ : Hid (wz.ownsRow Bx 33 1 (.slice AD ads.length kd) ads.length (ads.map (Value.int .u32))) := KZ1.out.own (HB1.out |> fun k => (KeepT.of_below (ts := []) k (Nat.le_refl _)).own HAd.out (by simp)) (by decide)
  have QZ := Lib.hid (KZ1.out.blk_ Q1.out (by decide))
  have XZ : Hid (Blk wz w.heap.size 66 #[.pointer (some ⟨g, 0, none⟩)]) := by
    show Blk _ _ _ _
    rw [hz]
    exact Blk.far (p := ⟨rb, 3, none⟩) (show Blk w1.drew w.heap.size _ _ from HBX.out) (HBX.out.ne_ R1.out.b (by decide)) _
  have hzs : Hid (w1.heap.size ≤ wz.heap.size) := by show _ ≤ _; rw [hz]; simp [World.setCell]
  have KN1 := Lib.hid (KZ0 N [64, 66] (by omega) (.inr ⟨by simp, by simp⟩))
  clear e0 e3 hne1 RB6 h1 h2 hC hz KZ0 RBc HD1
  -- what is found
  obtain ⟨Fv, hFv⟩ : ∃ Fv, Fv = Value.slice FA fs.length fc := ⟨_, rfl⟩
  obtain ⟨wcs, hwcs⟩ : ∃ wcs, wcs = #[ptr rb, .int .i64 now, .int .i64 draw, .slice FA fs.length fc, .slice DA ds.length dc] := ⟨_, rfl⟩
  have own_ne : ∀ {t : TypeId} {i : Nat} {cs : Array Value}, Blk wz i t cs → 39 ≠ t → ¬ (Fv.ownBlock = some i) := fun {t i cs} hb hne => by rw [hFv]; exact own_blk_ne WZ.out.f hb hne
  have ngw : g ≠ wb := QZ.out.ne_ WZ.out.b (by decide)
  have nxw : w.heap.size ≠ wb := XZ.out.ne_ WZ.out.b (by decide)
  have e3 : ∀ x : Ge wz wb (fun i => Fv.ownBlock = some i) 71 wcs, x.w.cell? ⟨wb, 3, none⟩ = some (.slice FA fs.length fc) := fun x => by rw [x.z.cell, hwcs]; rfl
  have ex : ∀ x : Ge wz wb (fun i => Fv.ownBlock = some i) 71 wcs, x.w.cell? ⟨w.heap.size, 0, none⟩ = some (.pointer (some ⟨g, 0, none⟩)) := fun x => (x.blk XZ.out nxw (own_ne XZ.out (by decide))).cell 0
  have eg : ∀ x : Ge wz wb (fun i => Fv.ownBlock = some i) 71 wcs, x.w.cell? ⟨g, 0, none⟩ = some (.string q.first) := fun x => (x.blk QZ.out ngw (own_ne QZ.out (by decide))).cell 0
  have hne1 : Nonempty (Ge wz wb (fun i => Fv.ownBlock = some i) 71 wcs) := ⟨⟨wz, Ce.refl _ _ _, by rw [hwcs]; exact WZ.out.b⟩⟩
  have WBc : Hid (Blk wz wb 71 wcs) := by show Blk _ _ _ _; rw [hwcs]; exact WZ.out.b
  have OFW : Fv.ownBlock ≠ some wb := own_ne WZ.out.b (by decide)
  have HFV := Lib.hid hFv
  obtain ⟨A2, k2, w2, hcl, ho2, hb2⟩ := cloneX wz.drew AD ads.length kd (ads.map (Value.int .u32)) (Reads.of_own ADZ.out.drew) (by intro u hu; obtain ⟨v, _, rfl⟩ := List.mem_map.1 hu; rfl) hads had0.out
  have HCL := Lib.hid hcl
  have HO2 := Lib.hid ho2
  have HB2 : Hid (Below wz.heap.size wz w2) := (rf wz).drew.trans hb2
  clear hcl ho2 hb2
  have HWCS := Lib.hid hwcs
  have hNz : Hid (N ≤ wz.heap.size) := Nat.le_trans hN (Nat.le_trans hz1 hzs.out)
  clear own_ne ngw nxw hFv hwcs
  go_wp2
  refine wp_region_che wb (fun i => Fv.ownBlock = some i) 71 wcs 17 (by kernel_rfl) (by kernel_rfl) (by kernel_rfl) (by kernel_rfl) WBc.out ?_
  iterate 11 (refine che_early (by kernel_rfl) (by kernel_rfl) (by kernel_rfl) ?_; intro K hK; go_big_quiet_op; go_big_quiet_on)
  refine che_call wz.drew w2 (.slice A2 ads.length k2) 18 #[.slice AD ads.length kd] (by kernel_rfl) (by kernel_rfl) (by kernel_rfl) HCL.out (fun hC => (Ce.refl _ _ _).nx HB2.out) (fun _ h => WBc.out.nx HB2.out) ?_
  go_frame
  iterate 1 (refine che_early (by kernel_rfl) (by kernel_rfl) (by kernel_rfl) ?_; intro K hK; go_big_quiet_op; go_big_quiet_on)
  refine che_lit w2 (.cells #[.string q.first, .int .i64 err, .slice A2 ads.length k2] 39) (.slice (some ⟨w2.heap.size, 0, none⟩) 1 1) (by kernel_rfl) (by kernel_rfl) (by first | rfl | (unfold execOp; simp [go_sem])) ?_
  go_frame
  have OW1 : Hid ((w2.alloc (.cells #[.string q.first, .int .i64 err, .slice A2 ads.length k2] 39)).ownsRow N 39 3 Fv fs.length (fs.flatMap Fd.cs)) := by
    show World.ownsRow _ _ _ _ _ _ _
    rw [HFV.out]
    exact ((KeepT.of_below (ts := []) HB2.out (Nat.le_refl _)).own WZ.out.f (by simp)).alloc _
  refine che_app stFd (w2.alloc (.cells #[.string q.first, .int .i64 err, .slice A2 ads.length k2] 39)) (by kernel_rfl) (.tmp 27) (.tmp 36) rfl N Fv fs.length (fs.flatMap Fd.cs) HFV.out.symm OW1.out (fun i h => .inl h) OFW (some ⟨w2.heap.size, 0, none⟩) 1 1 [.string q.first, .int .i64 err, .slice A2 ads.length k2] rfl (reads3 (Blk.new w2 _ _) rfl) (by intro u hu; simp only [List.mem_cons, List.not_mem_nil, or_false] at hu; rcases hu with rfl | rfl | rfl <;> rfl) (by omega) (by omega) (Nat.le_trans hNz.out (Nat.le_trans HB2.out.size (by simp))) (fun v6 w6 own6 gr6 at6 bel6 => ?_)
  obtain ⟨F6, n6, rfl⟩ := own_slice own6
  have O6 := Lib.hid own6
  have G6 := Lib.hid gr6
  have BL6 := Lib.hid bel6
  have WB6 : Hid (Blk w6 wb 71 wcs) := ((WBc.out.nx HB2.out).alloc _).grown gr6 (fun e => OFW e.symm)
  clear own6 gr6 at6 bel6
  go_frame
  iterate 2 (refine che_early (by kernel_rfl) (by kernel_rfl) (by kernel_rfl) ?_; intro K hK; go_big_quiet_op; go_big_quiet_on)
  have h1 : w6.cell? ⟨wb, 3, none⟩ = some (.slice FA fs.length fc) := by rw [WB6.out.cell, HWCS.out]; rfl
  have h2 := WB6.out.frozen 3
  refine che_store w6 (by kernel_rfl) 28 (.tmp 39) (.tmp 37) rfl rfl 3 (.slice F6 (fs.length + 1) n6) rfl rfl (by simp [go_sem, h1, h2]) ?_
  go_frame
  refine che_nil ?_
  intro wy hC hy
  subst hy
  clear e3 ex eg hne1 hC
  have OWs : (w2.alloc (.cells #[.string q.first, .int .i64 err, .slice A2 ads.length k2] 39)).ownsRow N 39 3 (.slice FA fs.length fc) fs.length (fs.flatMap Fd.cs) := by rw [← HFV.out]; exact OW1.out
  have G6s := G6.out
  rw [HFV.out] at G6s
  have kb : Below wz.heap.size wz (w2.alloc (.cells #[.string q.first, .int .i64 err, .slice A2 ads.length k2] 39)) := HB2.out.trans ((al (rf w2) _).mono HB2.out.size)
  have sz1 := kb.size
  have sz2 := G6s.size
  have hNw := hNz.out
  have nwb := WZ.out.lo
  have K1 : ∀ n, n ≤ wz.heap.size → ∀ ts, (n ≤ N ∨ (39 ∈ ts ∧ 71 ∈ ts)) → KeepT n ts wz (w6.setCell ⟨wb, 3, none⟩ (.slice F6 (fs.length + 1) n6)) := fun n hn ts ht => by
    have k1 : KeepT n ts wz (w2.alloc (.cells #[.string q.first, .int .i64 err, .slice A2 ads.length k2] 39)) := KeepT.of_below kb hn
    have k2 : KeepT n ts (w2.alloc (.cells #[.string q.first, .int .i64 err, .slice A2 ads.length k2] 39)) w6 := KeepT.of_row G6s OWs (by rcases ht with h | h; exact .inl h; exact .inr h.1) (by omega)
    have k3 : KeepT n ts w6 (w6.setCell ⟨wb, 3, none⟩ (.slice F6 (fs.length + 1) n6)) := KeepT.of_set WB6.out _ (by rcases ht with h | h; exact .inl (by omega); exact .inr h.2) (by omega)
    exact (k1.trans k2).trans k3
  have KA := K1 wz.heap.size (Nat.le_refl _) [71, 39] (.inr ⟨by simp, by simp⟩)
  have HWd := WZ.out
  have sw2 := HB2.out.size
  have AD6 : (w6.setCell ⟨wb, 3, none⟩ (.slice F6 (fs.length + 1) n6)).ownsRow N 33 1 (.slice A2 ads.length k2) ads.length (ads.map (Value.int .u32)) := by
    have a1 : w2.ownsRow N 33 1 (.slice A2 ads.length k2) ads.length (ads.map (Value.int .u32)) := own_base HO2.out (show N ≤ wz.drew.heap.size from hNw)
    have a2 := (KeepT.of_below (ts := [39, 71]) (al (rf w2) (.cells #[.string q.first, .int .i64 err, .slice A2 ads.length k2] 39)) (Nat.le_refl _)).own a1 (by decide)
    have k2' : KeepT w2.heap.size [39, 71] (w2.alloc (.cells #[.string q.first, .int .i64 err, .slice A2 ads.length k2] 39)) w6 := KeepT.of_row G6s OWs (.inr (by simp)) (by simp)
    have k3' : KeepT w2.heap.size [39, 71] w6 (w6.setCell ⟨wb, 3, none⟩ (.slice F6 (fs.length + 1) n6)) := KeepT.of_set WB6.out _ (.inr (by simp)) (by have := G6s.size; simp at this; omega)
    exact ((KeepT.of_below (ts := [39, 71]) (al (rf w2) (.cells #[.string q.first, .int .i64 err, .slice A2 ads.length k2] 39)) (Nat.le_refl _)).trans (k2'.trans k3')).own a1 (by decide)
  go_wp2
  go_end0
  refine ⟨A2, k2, rfl, F6, n6, QA, cap, RZ.out.keep KA (by decide) (by decide) (by decide) (by decide), ⟨?_, HWd.lo, ?_, KA.own HWd.d (by decide), fun x hx => ?_, fun x hx => KA.own (HWd.dd x hx) (by decide)⟩, ?_, ?_, ?_⟩
  · have h3 := WB6.out.set_ 3 (.slice F6 (fs.length + 1) n6)
    rw [HWCS.out] at h3
    rw [List.length_append]
    exact h3
  · rw [List.length_append, List.flatMap_append]
    exact (KeepT.of_set (i := 3) (ts := [71]) WB6.out (.slice F6 (fs.length + 1) n6) (.inr (by simp)) (Nat.le_refl _)).own O6.out (by decide)
  · rcases List.mem_append.1 hx with hx | hx
    · exact KA.own (HWd.fd x hx) (by decide)
    · obtain rfl := List.mem_singleton.1 hx
      exact AD6
  · exact ((KeepT.of_below HB1.out (Nat.le_refl _)).trans ((KZ1.out.mono (by decide)).less hz1)).trans ((KA.mono (by decide)).less (by have := hzs.out; omega))
  · exact ((KeepT.of_below HB1.out hN).trans KN1.out).trans ((K1 N hNw [] (.inl (Nat.le_refl _))).mono (by decide))
  · exact (((HB1.out.mono (by omega)).trans BZ.out).trans ((kb.mono (by omega)).trans (BL6.out.mono hBN))).setCell (Nat.le_trans hBN nwb) _
end
section
open Go.RowKit Go.Maps

set_option maxRecDepth 100000 in
set_option maxHeartbeats 1600000 in
theorem goesM (w : World) (B N wb rb g : Nat) (z : Rz) (now draw : Int) (fs : List Fd) (FA : Option Addr) (fc : Nat) (ds : List Dg) (DA : Option Addr) (dc : Nat) (AA : Option Addr) (ac : Nat) (L : List (Nat × En)) (D : DataW Unit) (q : Qn)
    (hR : IsRv w B rb z) (hW : IsWk w N wb rb now draw fs FA fc ds DA dc) (hq : Blk w g 68 q.cs) (hgB : B ≤ g) (hg : g ∉ z.qs.map (·.1)) (hK : IsKp w B z.km AA ac L D) (hlk : lookL L now q.name = none) (hm : MaxL w) (hql : z.qs.length < 32)
    (hn : isN q.name.data.toList = true) (hns : q.name.size ≤ 3000) (s1 : 1 ≤ z.sv.length) (hsv : z.sv.length ≤ 3) (n0 : 0 ≤ now) (n1 : now ≤ 1152921504606846976) (e0 : 0 ≤ z.sent) (e1 : z.sent ≤ 1152921504606846976)
    (hds : ds.length ≤ 1000000) (hBN : B ≤ N) (hN : N ≤ w.heap.size) (hB0 : 0 < B) :
    Calls Tryd.prog 20 #[.pointer (some ⟨wb, 0, none⟩), .pointer (some ⟨g, 0, none⟩)] w (GoP w B N wb rb g z now draw fs FA fc ds q) := by
  have HH0 := (haveK w wb rb B z.km AA ac L D q.name (by omega) now _ _ hW.b rfl rfl hR.b rfl hK).2
  rw [hlk] at HH0
  have HH := Lib.hid HH0
  clear HH0 hlk
  have q1 := hq.cell 1
  simp only [Qn.cs, List.getElem?_toArray, List.getElem?_cons_zero, List.getElem?_cons_succ] at q1
  have HR := Lib.hid hR
  have HWk := Lib.hid hW
  have HQ := Lib.hid hq
  have HM := Lib.hid hm
  have HK := Lib.hid hK
  have HG := Lib.hid hg
  obtain ⟨wo, hwo⟩ : ∃ wo, wo = w := ⟨_, rfl⟩
  have HWO := Lib.hid hwo
  clear hR hW hq hm hK hg hwo
  go_enter Tryd.func20, Tryd.ntmps20
  go_wp2
  go_step3
  go_wp2
  go_step3
  go_wp2
  go_loopw [4] (fun v ws => Hid (ws = wo)) (fun _ _ => 0)
  case atStart => exact HWO.out.symm
  case round =>
    have ew : wr = w := hrel.out.trans HWO.out
    subst ew
    go_wp2_with fail
    refine HH.out.mono ?_
    rintro e w1 ⟨rfl, b1⟩
    unfold entP
    have R1 := Lib.hid (HR.out.nx b1)
    have W1 := Lib.hid (HWk.out.nx b1)
    have Q1 := Lib.hid (HQ.out.nx b1)
    have K1 := Lib.hid (HK.out.nx b1)
    have B1 := Lib.hid b1
    have x0 : w1.cell? ⟨wb, 0, none⟩ = some (.pointer (some ⟨rb, 0, none⟩)) := W1.out.b.cell 0
    have r3 : w1.cell? ⟨rb, 3, none⟩ = some (.slice z.QA z.qs.length z.qc) := R1.out.b.cell 3
    have HC := containsC w1 z.QA z.qc (z.qs.map (·.1)) g (by rw [List.length_map, ← map_ptr]; exact Reads.of_own R1.out.qs) (by rw [List.length_map]; omega) ⟨_, _, Q1.out⟩ R1.out.isB
    rw [List.length_map, show (z.qs.map (·.1)).contains g = false from by rw [Bool.eq_false_iff]; intro h; rw [List.contains_iff_mem] at h; exact HG.out h] at HC
    have HC1 := Lib.hid HC
    have hl1 : ¬ (32 : Int) ≤ z.qs.length := by omega
    clear HC b1 q1 HH
    go_wp2_with fail
    refine HC1.out.mono ?_
    rintro e w2 ⟨rfl, hw2⟩
    have hw3 := hw2.symm
    subst hw3
    clear hw2 HC1
    go_wp2
    obtain ⟨Dv, hDv⟩ : ∃ Dv, Dv = Value.slice z.QA z.qs.length z.qc := ⟨_, rfl⟩
    obtain ⟨zcs, hzcs⟩ : ∃ zcs, zcs = z.cs := ⟨_, rfl⟩
    have own_ne : ∀ {t : TypeId} {i : Nat} {cs : Array Value}, Blk w1 i t cs → 66 ≠ t → ¬ (Dv.ownBlock = some i) := fun {t i cs} hb hne => by rw [hDv]; exact own_blk_ne R1.out.qs hb hne
    have nrw : wb ≠ rb := W1.out.b.ne_ R1.out.b (by decide)
    have e0 : ∀ x : Gd w1 rb (fun i => Dv.ownBlock = some i) 64 zcs, x.w.cell? ⟨wb, 0, none⟩ = some (.pointer (some ⟨rb, 0, none⟩)) := fun x => (x.blk W1.out.b nrw (own_ne W1.out.b (by decide))).cell 0
    have e3 : ∀ x : Gd w1 rb (fun i => Dv.ownBlock = some i) 64 zcs, x.w.cell? ⟨rb, 3, none⟩ = some (.slice z.QA z.qs.length z.qc) := fun x => by rw [x.z.cell, hzcs]; rfl
    have RBc : Hid (Blk w1 rb 64 zcs) := by show Blk _ _ _ _; rw [hzcs]; exact R1.out.b
    have hne1 : Nonempty (Gd w1 rb (fun i => Dv.ownBlock = some i) 64 zcs) := ⟨⟨w1, Cd.refl _ _ _, RBc.out⟩⟩
    have ODW : Dv.ownBlock ≠ some rb := own_ne R1.out.b (by decide)
    have HDV := Lib.hid hDv
    have HZC := Lib.hid hzcs
    have h1B : Hid (B ≤ w1.heap.size) := Nat.le_trans hBN (Nat.le_trans hN B1.out.size)
    clear own_ne nrw hDv hzcs x0 r3
    refine wp_region_chd rb (fun i => Dv.ownBlock = some i) 64 zcs 16 (by kernel_rfl) (by kernel_rfl) (by kernel_rfl) (by kernel_rfl) RBc.out ?_
    iterate 12 (refine chd_early (by kernel_rfl) (by kernel_rfl) (by kernel_rfl) ?_; intro K hK; go_big_quiet_op; go_big_quiet_on)
    refine chd_lit w1.drew (.cells #[.pointer (some ⟨g, 0, none⟩)] 66) (.slice (some ⟨w1.heap.size, 0, none⟩) 1 1) (by kernel_rfl) (by kernel_rfl) (by first | rfl | (unfold execOp; simp [go_sem])) ?_
    go_frame
    have OW1 : Hid ((w1.drew.alloc (.cells #[.pointer (some ⟨g, 0, none⟩)] 66)).ownsRow B 66 1 Dv z.qs.length (z.qs.map fun p => ptr p.1)) := by
      show World.ownsRow _ _ _ _ _ _ _
      rw [HDV.out]
      exact (R1.out.qs.drew).alloc _
    refine chd_app stQp (w1.drew.alloc (.cells #[.pointer (some ⟨g, 0, none⟩)] 66)) (by kernel_rfl) (.tmp 81) (.tmp 83) rfl B Dv z.qs.length (z.qs.map fun p => ptr p.1) HDV.out.symm OW1.out (fun i h => .inl h) ODW (some ⟨w1.heap.size, 0, none⟩) 1 1 [ptr g] rfl (Reads.one (Blk.new w1.drew _ _)) (by intro u hu; simp only [List.mem_singleton] at hu; rw [hu]; rfl) (by omega) (by omega) (Nat.le_trans h1B.out (by simp)) (fun v6 w6 own6 gr6 at6 bel6 => ?_)
    obtain ⟨Q6, n6, rfl⟩ := own_slice own6
    have O6 := Lib.hid own6
    have G6 := Lib.hid gr6
    have BL6 := Lib.hid bel6
    have RB6 : Hid (Blk w6 rb 64 zcs) := ((RBc.out.drew).alloc _).grown gr6 (fun e => ODW e.symm)
    clear own6 gr6 at6 bel6
    go_frame
    iterate 2 (refine chd_early (by kernel_rfl) (by kernel_rfl) (by kernel_rfl) ?_; intro K hK; go_big_quiet_op; go_big_quiet_on)
    have h1 : w6.cell? ⟨rb, 3, none⟩ = some (.slice z.QA z.qs.length z.qc) := by rw [RB6.out.cell, HZC.out]; rfl
    have h2 := RB6.out.frozen 3
    refine chd_store w6 (by kernel_rfl) 61 (.tmp 86) (.tmp 84) rfl rfl 3 (.slice Q6 (z.qs.length + 1) n6) rfl rfl (by simp [go_sem, h1, h2]) ?_
    go_frame
    refine chd_nil ?_
    intro wz hC hz
    have RZ0 := RB6.out.set_ 3 (.slice Q6 (z.qs.length + 1) n6)
    rw [← hz] at RZ0
    have RZ : Hid (Blk wz rb 64 ({ z with qs := z.qs ++ [(g, q)], QA := Q6, qc := n6 } : Rz).cs) := by
      show Blk _ _ _ _
      rw [HZC.out] at RZ0
      unfold Rz.cs
      rw [List.length_append]
      exact RZ0
    have OWs : (w1.drew.alloc (.cells #[.pointer (some ⟨g, 0, none⟩)] 66)).ownsRow B 66 1 (.slice z.QA z.qs.length z.qc) z.qs.length (z.qs.map fun p => ptr p.1) := by rw [← HDV.out]; exact OW1.out
    have G6s := G6.out
    rw [HDV.out] at G6s
    have kb : Below w1.heap.size w1 (w1.drew.alloc (.cells #[.pointer (some ⟨g, 0, none⟩)] 66)) := al (rf w1).drew _
    have hs1 := kb.size
    have hs2 := G6s.size
    have KZ0 : KeepT w1.heap.size [64, 66] w1 wz := by
      rw [hz]
      exact ((KeepT.of_below kb (Nat.le_refl _)).trans (KeepT.of_row G6s OWs (.inr (by simp)) (by omega))).trans (KeepT.of_set RB6.out _ (.inr (by simp)) (by omega))
    have OZ0 : wz.ownsRow B 66 1 (.slice Q6 (z.qs.length + 1) n6) (z.qs.length + 1) ((z.qs.map fun p => ptr p.1) ++ [ptr g]) := by
      rw [hz]
      exact (KeepT.of_set (i := 3) (ts := [64]) RB6.out (.slice Q6 (z.qs.length + 1) n6) (.inr (by simp)) (Nat.le_refl _)).own O6.out (by decide)
    have R2 := Lib.hid (R1.out.add KZ0 RZ.out OZ0 Q1.out hgB HG.out)
    have W2 := Lib.hid (W1.out.keep KZ0 (by decide) (by decide) (by decide) (by decide) (by decide))
    have Q2 := Lib.hid (KZ0.blk_ Q1.out (by decide))
    have KZ := Lib.hid KZ0
    have BZ : Hid (Below B w1 wz) := by
      show Below _ _ _
      rw [hz]
      exact ((kb.mono h1B.out).trans BL6.out).setCell R1.out.lo _
    have MZ : Hid (MaxL wz) := (HM.out.below B1.out (by omega)).below BZ.out hB0
    clear e0 e3 hne1 h1 h2 hC hz RZ0 OWs G6s kb hs1 hs2 KZ0 OZ0 O6 G6 BL6 RB6 OW1 ODW RBc
    have T0 := Lib.hid (T4.start Q2.out R2.out.b W2.out.b)
    have q5 := Q2.out.cell 5
    have q4 := Q2.out.cell 4
    have f5 := Q2.out.frozen 5
    have f4 := Q2.out.frozen 4
    simp only [Qn.cs, List.getElem?_toArray, List.getElem?_cons_zero, List.getElem?_cons_succ] at q4 q5
    go_wp2_with fail
    have T1 : Hid (T4 wz ((wz.setCell ⟨g, 5, none⟩ (.int .i64 0)).setCell ⟨g, 4, none⟩ (.int .i64 0)) g rb wb q.zero.cs ({ z with qs := z.qs ++ [(g, q)], QA := Q6, qc := n6 } : Rz).cs #[ptr rb, .int .i64 now, .int .i64 draw, .slice FA fs.length fc, .slice DA ds.length dc]) := (T0.out.setG 5 _).setG 4 _
    generalize (wz.setCell ⟨g, 5, none⟩ (.int .i64 0)).setCell ⟨g, 4, none⟩ (.int .i64 0) = w7 at T1 ⊢
    have R7 := Lib.hid (R2.out.of4 (s := z.sent) T1.out ⟨q, by simp⟩)
    have W7 := Lib.hid (W2.out.of4 T1.out Q2.out R2.out.b)
    have K7 := Lib.hid (T1.out.keep (n := wz.heap.size) Q2.out R2.out.b)
    have B7 := Lib.hid (T1.out.below hgB R2.out.lo)
    have M7 := Lib.hid (MZ.out.of4 T1.out Q2.out R2.out.b)
    have hz7 := B7.out.size
    have hz1 := BZ.out.size
    have hz0 := B1.out.size
    refine (asksC w7 B N wb rb g { ({ z with qs := z.qs ++ [(g, q)], QA := Q6, qc := n6 } : Rz).upd g q.zero with sent := z.sent } now draw fs FA fc ds DA dc q.zero R7.out W7.out (List.mem_map.2 ⟨(g, q), by simp, if_pos rfl⟩) M7.out hn hns (Int.le_refl 0) (by show (0 : Int) < z.sv.length; omega) hsv n0 n1 (Int.le_refl 0) (by show (0 : Int) ≤ 1000; omega) e0 e1 hds hBN (by omega)).mono ?_
    rintro e w8 ⟨rfl, A8, k8, D8, d8, R8, W8, K8, N8, B8⟩
    have HR8 := Lib.hid R8
    have HW8 := Lib.hid W8
    have HK8 := Lib.hid K8
    have HN8 := Lib.hid N8
    have HB8 := Lib.hid B8
    clear R8 W8 K8 N8 B8 q4 q5 f4 f5
    go_wp2
    go_end0
    have eq8 : ({ ({ ({ z with qs := z.qs ++ [(g, q)], QA := Q6, qc := n6 } : Rz).upd g q.zero with sent := z.sent } : Rz).upd g (q.zero.ask (idV draw z.sent) now) with sent := z.sent + 1 } : Rz) = { z with sent := z.sent + 1, qs := z.qs ++ [(g, q.zero.ask (idV draw z.sent) now)], QA := Q6, qc := n6 } := by
      have e1 := upd_new (q := q) (q' := q.zero) (QA := Q6) (qc := n6) HG.out
      have e2 := upd_new (q := q.zero) (q' := q.zero.ask (idV draw z.sent) now) (QA := Q6) (qc := n6) HG.out
      unfold Rz.upd at e1 e2 ⊢
      simp only at e1 e2 ⊢
      rw [e1, e2]
    have r8 := HR8.out
    rw [eq8] at r8
    have kk : KeepT wr.heap.size [68, 64, 71, 36, 66] wr w8 :=
      (((KeepT.of_below B1.out (Nat.le_refl _)).trans ((KZ.out.mono (by decide)).less hz0)).trans ((K7.out.mono (by decide)).less (by omega))).trans ((HK8.out.mono (by decide)).less (by omega))
    have kn : KeepT N [68, 64, 66] wr w8 :=
      (((KeepT.of_below B1.out hN).trans ((KZ.out.mono (by decide)).less (by omega))).trans ((K7.out.mono (by decide)).less (by omega))).trans (HN8.out.mono (by decide))
    exact ⟨rfl, Q6, n6, A8, k8, D8, d8, r8, HW8.out, kk, kn, (((B1.out.mono (by omega)).trans BZ.out).trans B7.out).trans HB8.out⟩
def EndA (w : World) (B N wb rb : Nat) (z : Rz) (now draw : Int) (fs : List Fd) (ds : List Dg) (DA : Option Addr) (dc : Nat) (nm : ByteArray) (err : Int) (ads : List Int) (e : Ending) (w' : World) : Prop :=
  ∃ (A' : Option Addr) (k' : Nat), EndP w B N wb rb z now draw fs ds DA dc ⟨nm, err, ads, A', k'⟩ e w'
set_option maxRecDepth 100000 in
set_option maxHeartbeats 1600000 in
theorem goesN (w : World) (B N wb rb g : Nat) (z : Rz) (now draw : Int) (fs : List Fd) (FA : Option Addr) (fc : Nat) (ds : List Dg) (DA : Option Addr) (dc : Nat) (AA : Option Addr) (ac : Nat) (L : List (Nat × En)) (D : DataW Unit) (q : Qn) (p : Nat × En)
    (hR : IsRv w B rb z) (hW : IsWk w N wb rb now draw fs FA fc ds DA dc) (hqs : z.qs = []) (hq : Blk w g 68 q.cs) (hK : IsKp w B z.km AA ac L D) (hlk : lookL L now q.name = some p) (hl : p.2.leads = false) (had : p.2.ad.length ≤ 1000000) (hns : q.name.size ≤ 3000)
    (hfs : fs.length ≤ 1000000) (hBN : B ≤ N) (hN : N ≤ w.heap.size) :
    Calls Tryd.prog 20 #[.pointer (some ⟨wb, 0, none⟩), .pointer (some ⟨g, 0, none⟩)] w (EndA w B N wb rb z now draw fs ds DA dc q.first 0 p.2.ad) := by
  obtain ⟨hin, HH0⟩ := haveK w wb rb B z.km AA ac L D q.name (by omega) now _ _ hW.b rfl rfl hR.b rfl hK
  have hp := hin p hlk
  rw [hlk] at HH0
  have HH := Lib.hid HH0
  have HP := Lib.hid hp
  have q1 := hq.cell 1
  simp only [Qn.cs, List.getElem?_toArray, List.getElem?_cons_zero, List.getElem?_cons_succ] at q1
  have HR := Lib.hid hR
  have HWk := Lib.hid hW
  have HQ := Lib.hid hq
  have HK := Lib.hid hK
  have HQS := Lib.hid hqs
  have HL := Lib.hid hl
  obtain ⟨wo, hwo⟩ : ∃ wo, wo = w := ⟨_, rfl⟩
  have HWO := Lib.hid hwo
  clear hR hW hq hK hqs hin HH0 hp hlk hl hwo
  go_enter Tryd.func20, Tryd.ntmps20
  go_wp2
  go_step3
  go_wp2
  go_step3
  go_wp2
  go_loopw [4] (fun v ws => Hid (ws = wo)) (fun _ _ => 0)
  case atStart => exact HWO.out.symm
  case round =>
    have ew : wr = w := hrel.out.trans HWO.out
    subst ew
    go_wp2_with fail
    refine HH.out.mono ?_
    rintro e w1 ⟨rfl, b1⟩
    unfold entP
    have R1 := Lib.hid (HR.out.nx b1)
    have W1 := Lib.hid (HWk.out.nx b1)
    have K1 := Lib.hid (HK.out.nx b1)
    have Q1 := Lib.hid (HQ.out.nx b1)
    have B1 := Lib.hid b1
    have hz1 := b1.size
    have EB := Lib.hid (K1.out.e p HP.out).1
    have l2 : w1.cell? ⟨p.1, 2, none⟩ = some (.bool p.2.leads) := EB.out.cell 2
    have l3 : w1.cell? ⟨p.1, 3, none⟩ = some (.slice p.2.A p.2.ad.length p.2.k) := EB.out.cell 3
    rw [HL.out] at l2
    have HE := Lib.hid (endsN w1 B N wb rb g z now draw fs FA fc ds DA dc q 0 B p.2.A p.2.ad p.2.k R1.out W1.out HQS.out Q1.out (K1.out.ad p HP.out) had hfs hBN (by omega))
    clear q1 b1 HH
    go_wp2_with fail
    refine HE.out.mono ?_
    rintro e w2 ⟨A', k', rfl, FA', fc', QA', qc', r, wk, k1, k2, b⟩
    have H2 : Hid (EndP wr B N wb rb z now draw fs ds DA dc ⟨q.first, 0, p.2.ad, A', k'⟩ (.returned (.tuple #[])) w2) :=
      ⟨rfl, FA', fc', QA', qc', r, wk, (KeepT.of_below B1.out (Nat.le_refl _)).trans (k1.less hz1), (KeepT.of_below B1.out hN).trans k2, (B1.out.mono (by omega)).trans b⟩
    clear r wk k1 k2 b
    go_wp2
    go_end0
    exact ⟨A', k', H2.out⟩
end
section
open Go.RowKit Go.Maps

set_option maxRecDepth 100000 in
set_option maxHeartbeats 1600000 in
theorem askKM (w : World) (B rb : Nat) (z : Rz) (s : ByteArray) (now draw : Int) (AA : Option Addr) (ac : Nat) (L : List (Nat × En)) (D : DataW Unit) (hR : IsRv w B rb z) (hK : IsKp w B z.km AA ac L D) (hlk : lookL L now s = none) (hm : MaxL w) (hql : z.qs.length < 32)
    (hn : isN s.data.toList = true) (hns : s.size ≤ 3000) (h0 : s.size ≠ 0) (s1 : 1 ≤ z.sv.length) (hsv : z.sv.length ≤ 3) (n0 : 0 ≤ now) (n1 : now ≤ 1152921504606846976) (e0 : 0 ≤ z.sent) (e1 : z.sent ≤ 1152921504606846976)
    (hB : B ≤ w.heap.size) (hB0 : 0 < B) (hsame : ∀ p ∈ z.qs, (low p.2.first == low s) = false ∧ p.2.first.size ≤ 3000) :
    Calls Tryd.prog 11 #[.pointer (some ⟨rb, 0, none⟩), .string s, .int .i64 now, .int .i64 draw] w (AskAll w B rb z s now draw) := by
  have r0 := hR.b.cell 0
  simp only [Rz.cs, List.getElem?_toArray, List.getElem?_cons_zero] at r0
  have HP := Lib.hid (packC s w (by omega) hm)
  have HR := Lib.hid hR
  have HM := Lib.hid hm
  have HK := Lib.hid hK
  have HN := Lib.hid hn
  have HS := Lib.hid hsame
  have hl0 : ((z.sv.length : Int) == 0) = false := by rw [beq_eq_false_iff_ne]; omega
  have hse : s.toList.isEmpty = false := by
    rw [ByteArray.toList_eq]
    cases hc : s.data.toList with
    | nil => exact absurd (by rw [← str_len, hc]; rfl) h0
    | cons a l => rfl
  clear hR hK hm hn hsame
  go_enter Tryd.func11, Tryd.ntmps11
  go_wp2_with fail
  refine HP.out.mono ?_
  rintro e w1 (⟨_, A, c, rfl, own, b1⟩ | ⟨hf, rfl, b1⟩)
  rotate_left
  · exact absurd (HN.out.symm.trans hf) (by simp)
  have R1 := Lib.hid (HR.out.nx b1)
  have K1 := Lib.hid (HK.out.nx b1)
  have B1 := Lib.hid b1
  have r3 := R1.out.b.cell 3
  simp only [Rz.cs, List.getElem?_toArray, List.getElem?_cons_zero, List.getElem?_cons_succ] at r3
  clear own b1 r0 HP
  obtain ⟨QA0, hQA⟩ : ∃ QA0, z.QA = QA0 := ⟨_, rfl⟩
  have HQA := Lib.hid hQA
  rw [hQA] at r3
  clear hQA
  go_wp2
  obtain ⟨wz, hwz⟩ : ∃ wz, wz = w1 := ⟨_, rfl⟩
  have HWZ := Lib.hid hwz
  clear hwz r3
  go_loopw [44] (fun kv ws => ∃ (k n : Nat), kv = .int .i64 k ∧ k ≤ z.qs.length ∧ Hid (ws = wz.drewN n)) (fun kv _ => z.qs.length - (intOf kv).toNat)
  case atStart => exact ⟨0, 0, rfl, by omega, by rw [HWZ.out]; rfl⟩
  case round =>
    obtain ⟨k, n, rfl, hk, HWR⟩ := hrel
    have Bz : Hid (Below w1.heap.size w1 wr) := by
      show Below _ _ _
      rw [HWR.out, HWZ.out]
      exact dn (rf w1) n
    have RR := Lib.hid (R1.out.nx Bz.out)
    by_cases hlt : k < z.qs.length
    · obtain ⟨p, hp⟩ : ∃ p, z.qs[k]? = some p := ⟨_, List.getElem?_eq_getElem hlt⟩
      have hpm := List.mem_of_getElem? hp
      have hown := Reads.of_own RR.out.qs
      rw [HQA.out] at hown
      obtain ⟨ad, u, hA, _, hu, hc⟩ := hown.at_ hlt
      subst hA
      have hu2 : u = .pointer (some ⟨p.1, 0, none⟩) := by rw [List.getElem?_map, hp] at hu; exact (Option.some.inj hu).symm
      rw [hu2] at hc
      have k0 : (0 : Int) ≤ k := by omega
      have k1 : (k : Int) < z.qs.length := by omega
      have c0 : wr.cell? ⟨p.1, 0, none⟩ = some (.string p.2.first) := (RR.out.q p hpm).1.cell 0
      obtain ⟨hsm, hsz⟩ := HS.out p hpm
      have HSA := sameC p.2.first s wr (by omega) (by omega)
      rw [hsm] at HSA
      have HSA1 := Lib.hid HSA
      clear HSA hu hu2 hp hpm hown hsm
      go_wp2_with fail
      refine HSA1.out.mono ?_
      rintro e w2 ⟨rfl, m, hw2⟩
      have H2 : Hid (w2 = wz.drewN (n + m)) := by
        show _ = _
        rw [hw2, HWR.out, World.drewN_drewN]
      clear hw2 HSA1
      go_wp2
      go_roundw
      case rel => exact ⟨k + 1, n + m, by go_num, by omega, H2.out⟩
      case measure => simp [intOf]; omega
    · have hkl : ¬ (k : Int) < z.qs.length := by omega
      have zz : w.heap.size ≤ wr.heap.size := (nx B1.out Bz.out).size
      have KR := Lib.hid (K1.out.nx Bz.out)
      have WA : Hid (Blk (wr.alloc (.cells #[.pointer (some ⟨rb, 0, none⟩), .int .i64 now, .int .i64 draw, .slice none 0 0, .slice none 0 0] 71)) wr.heap.size 71 #[.pointer (some ⟨rb, 0, none⟩), .int .i64 now, .int .i64 draw, .slice none 0 0, .slice none 0 0]) := Blk.new _ _ _
      go_wp2_with fail
      have hszA : (wr.alloc (.cells #[.pointer (some ⟨rb, 0, none⟩), .int .i64 now, .int .i64 draw, .slice none 0 0, .slice none 0 0] 71)).heap.size = wr.heap.size + 1 := by simp
      have QB0 : Blk ((wr.alloc (.cells #[.pointer (some ⟨rb, 0, none⟩), .int .i64 now, .int .i64 draw, .slice none 0 0, .slice none 0 0] 71)).alloc (.cells #[.string s, .string s, .int .i64 0, .int .i64 0, .int .i64 0, .int .i64 0, .int .i64 0] 68)) (wr.heap.size + 1) 68 (⟨s, s, 0, 0, 0, 0, 0⟩ : Qn).cs := blk_at _ _ _ hszA.symm
      have kz : Below wr.heap.size wr ((wr.alloc (.cells #[.pointer (some ⟨rb, 0, none⟩), .int .i64 now, .int .i64 draw, .slice none 0 0, .slice none 0 0] 71)).alloc (.cells #[.string s, .string s, .int .i64 0, .int .i64 0, .int .i64 0, .int .i64 0, .int .i64 0] 68)) := al (al (rf wr) _) _
      have WB0 : Blk ((wr.alloc (.cells #[.pointer (some ⟨rb, 0, none⟩), .int .i64 now, .int .i64 draw, .slice none 0 0, .slice none 0 0] 71)).alloc (.cells #[.string s, .string s, .int .i64 0, .int .i64 0, .int .i64 0, .int .i64 0, .int .i64 0] 68)) wr.heap.size 71 #[.pointer (some ⟨rb, 0, none⟩), .int .i64 now, .int .i64 draw, .slice none 0 0, .slice none 0 0] := WA.out.alloc _
      have hwpos : 0 < w.heap.size := by omega
      have hkm : IsKp ((wr.alloc (.cells #[.pointer (some ⟨rb, 0, none⟩), .int .i64 now, .int .i64 draw, .slice none 0 0, .slice none 0 0] 71)).alloc (.cells #[.string s, .string s, .int .i64 0, .int .i64 0, .int .i64 0, .int .i64 0, .int .i64 0] 68)) B z.km AA ac L D := KR.out.nx kz
      have hgn : wr.heap.size + 1 ∉ z.qs.map (·.1) := fun h => by
        obtain ⟨x, hx, e⟩ := List.mem_map.1 h
        have := (RR.out.q x hx).1.lt
        omega
      have b02 : Below w.heap.size w ((wr.alloc (.cells #[.pointer (some ⟨rb, 0, none⟩), .int .i64 now, .int .i64 draw, .slice none 0 0, .slice none 0 0] 71)).alloc (.cells #[.string s, .string s, .int .i64 0, .int .i64 0, .int .i64 0, .int .i64 0, .int .i64 0] 68)) := nx (nx B1.out Bz.out) kz
      have B02 := Lib.hid b02
      have HGO := goesM _ B w.heap.size wr.heap.size rb (wr.heap.size + 1) z now draw [] none 0 [] none 0 AA ac L D ⟨s, s, 0, 0, 0, 0, 0⟩ (RR.out.nx kz) ⟨WB0, zz, World.ownsRow_nil _ _ _ _, World.ownsRow_nil _ _ _ _, by simp, by simp⟩ QB0 (by omega) hgn hkm hlk (HM.out.below b02 hwpos) hql HN.out hns s1 hsv n0 n1 e0 e1 (by simp) hB b02.size hB0
      refine HGO.mono ?_
      rintro e w8 ⟨rfl, Q8, n8, A8, k8, D8, d8, R8, W8, K8, N8, B8⟩
      have HR8 := Lib.hid R8
      have HW8 := Lib.hid W8
      have HN8 := Lib.hid N8
      have HB8 := Lib.hid B8
      have y3 := W8.b.cell 3
      have y4 := W8.b.cell 4
      simp only [List.getElem?_toArray, List.getElem?_cons_zero, List.getElem?_cons_succ] at y3 y4
      have hgw : w.heap.size ≤ wr.heap.size + 1 := by omega
      clear R8 W8 K8 N8 B8 HGO hkm hgn WB0 kz QB0 hszA b02
      go_wp2
      go_quiet (fail)
      go_wp2
      go_ret2
      refine ⟨wr.heap.size + 1, Q8, n8, A8, k8, hgw, none, D8, 0, d8, rfl, HR8.out.nx (dn (rf w8) _), ?_, ?_, by simp, ?_, ?_, ?_⟩
      · exact World.ownsRow_nil _ _ _ _
      · exact own_nx HW8.out.d (dn (rf w8) _)
      · exact fun x hx => own_nx (HW8.out.dd x hx) (dn (rf w8) _)
      · exact ((KeepT.of_below B02.out (Nat.le_refl _)).trans (HN8.out.mono (by decide))).trans (KeepT.of_below (dn (rf w8) _) (by have := B02.out.size; have := HB8.out.size; omega))
      · exact ((B02.out.mono hB).trans HB8.out).trans ((dn (rf w8) _).mono (by have := B02.out.size; have := HB8.out.size; omega))
def AskEnd (w : World) (B rb : Nat) (z : Rz) (s : ByteArray) (p : Nat × En) (e : Ending) (w' : World) : Prop :=
  ∃ (A' : Option Addr) (k' : Nat) (QA : Option Addr) (qc : Nat), HandP w B rb { z with qs := [], QA := QA, qc := qc } [⟨s, 0, p.2.ad, A', k'⟩] [] e w'
set_option maxRecDepth 100000 in
set_option maxHeartbeats 1600000 in
theorem askKN (w : World) (B rb : Nat) (z : Rz) (s : ByteArray) (now draw : Int) (AA : Option Addr) (ac : Nat) (L : List (Nat × En)) (D : DataW Unit) (p : Nat × En) (hR : IsRv w B rb z) (hK : IsKp w B z.km AA ac L D) (hqs : z.qs = []) (hlk : lookL L now s = some p) (hl : p.2.leads = false) (had : p.2.ad.length ≤ 1000000) (hm : MaxL w) (hql : z.qs.length < 32)
    (hn : isN s.data.toList = true) (hns : s.size ≤ 3000) (h0 : s.size ≠ 0) (s1 : 1 ≤ z.sv.length) (hsv : z.sv.length ≤ 3) (n0 : 0 ≤ now) (n1 : now ≤ 1152921504606846976) (e0 : 0 ≤ z.sent) (e1 : z.sent ≤ 1152921504606846976)
    (hB : B ≤ w.heap.size) (hB0 : 0 < B) (hsame : ∀ p ∈ z.qs, (low p.2.first == low s) = false ∧ p.2.first.size ≤ 3000) :
    Calls Tryd.prog 11 #[.pointer (some ⟨rb, 0, none⟩), .string s, .int .i64 now, .int .i64 draw] w (AskEnd w B rb z s p) := by
  have r0 := hR.b.cell 0
  simp only [Rz.cs, List.getElem?_toArray, List.getElem?_cons_zero] at r0
  have HP := Lib.hid (packC s w (by omega) hm)
  have HR := Lib.hid hR
  have HM := Lib.hid hm
  have HK := Lib.hid hK
  have HN := Lib.hid hn
  have HQS := Lib.hid hqs
  have HS := Lib.hid hsame
  have hl0 : ((z.sv.length : Int) == 0) = false := by rw [beq_eq_false_iff_ne]; omega
  have hse : s.toList.isEmpty = false := by
    rw [ByteArray.toList_eq]
    cases hc : s.data.toList with
    | nil => exact absurd (by rw [← str_len, hc]; rfl) h0
    | cons a l => rfl
  clear hR hK hm hn hsame hqs
  go_enter Tryd.func11, Tryd.ntmps11
  go_wp2_with fail
  refine HP.out.mono ?_
  rintro e w1 (⟨_, A, c, rfl, own, b1⟩ | ⟨hf, rfl, b1⟩)
  rotate_left
  · exact absurd (HN.out.symm.trans hf) (by simp)
  have R1 := Lib.hid (HR.out.nx b1)
  have K1 := Lib.hid (HK.out.nx b1)
  have B1 := Lib.hid b1
  have r3 := R1.out.b.cell 3
  simp only [Rz.cs, List.getElem?_toArray, List.getElem?_cons_zero, List.getElem?_cons_succ] at r3
  clear own b1 r0 HP
  obtain ⟨QA0, hQA⟩ : ∃ QA0, z.QA = QA0 := ⟨_, rfl⟩
  have HQA := Lib.hid hQA
  rw [hQA] at r3
  clear hQA
  go_wp2
  obtain ⟨wz, hwz⟩ : ∃ wz, wz = w1 := ⟨_, rfl⟩
  have HWZ := Lib.hid hwz
  clear hwz r3
  go_loopw [44] (fun kv ws => ∃ (k n : Nat), kv = .int .i64 k ∧ k ≤ z.qs.length ∧ Hid (ws = wz.drewN n)) (fun kv _ => z.qs.length - (intOf kv).toNat)
  case atStart => exact ⟨0, 0, rfl, by omega, by rw [HWZ.out]; rfl⟩
  case round =>
    obtain ⟨k, n, rfl, hk, HWR⟩ := hrel
    have Bz : Hid (Below w1.heap.size w1 wr) := by
      show Below _ _ _
      rw [HWR.out, HWZ.out]
      exact dn (rf w1) n
    have RR := Lib.hid (R1.out.nx Bz.out)
    by_cases hlt : k < z.qs.length
    · obtain ⟨p, hp⟩ : ∃ p, z.qs[k]? = some p := ⟨_, List.getElem?_eq_getElem hlt⟩
      have hpm := List.mem_of_getElem? hp
      have hown := Reads.of_own RR.out.qs
      rw [HQA.out] at hown
      obtain ⟨ad, u, hA, _, hu, hc⟩ := hown.at_ hlt
      subst hA
      have hu2 : u = .pointer (some ⟨p.1, 0, none⟩) := by rw [List.getElem?_map, hp] at hu; exact (Option.some.inj hu).symm
      rw [hu2] at hc
      have k0 : (0 : Int) ≤ k := by omega
      have k1 : (k : Int) < z.qs.length := by omega
      have c0 : wr.cell? ⟨p.1, 0, none⟩ = some (.string p.2.first) := (RR.out.q p hpm).1.cell 0
      obtain ⟨hsm, hsz⟩ := HS.out p hpm
      have HSA := sameC p.2.first s wr (by omega) (by omega)
      rw [hsm] at HSA
      have HSA1 := Lib.hid HSA
      clear HSA hu hu2 hp hpm hown hsm
      go_wp2_with fail
      refine HSA1.out.mono ?_
      rintro e w2 ⟨rfl, m, hw2⟩
      have H2 : Hid (w2 = wz.drewN (n + m)) := by
        show _ = _
        rw [hw2, HWR.out, World.drewN_drewN]
      clear hw2 HSA1
      go_wp2
      go_roundw
      case rel => exact ⟨k + 1, n + m, by go_num, by omega, H2.out⟩
      case measure => simp [intOf]; omega
    · have hkl : ¬ (k : Int) < z.qs.length := by omega
      have zz : w.heap.size ≤ wr.heap.size := (nx B1.out Bz.out).size
      have KR := Lib.hid (K1.out.nx Bz.out)
      have WA : Hid (Blk (wr.alloc (.cells #[.pointer (some ⟨rb, 0, none⟩), .int .i64 now, .int .i64 draw, .slice none 0 0, .slice none 0 0] 71)) wr.heap.size 71 #[.pointer (some ⟨rb, 0, none⟩), .int .i64 now, .int .i64 draw, .slice none 0 0, .slice none 0 0]) := Blk.new _ _ _
      go_wp2_with fail
      have hszA : (wr.alloc (.cells #[.pointer (some ⟨rb, 0, none⟩), .int .i64 now, .int .i64 draw, .slice none 0 0, .slice none 0 0] 71)).heap.size = wr.heap.size + 1 := by simp
      have QB0 : Blk ((wr.alloc (.cells #[.pointer (some ⟨rb, 0, none⟩), .int .i64 now, .int .i64 draw, .slice none 0 0, .slice none 0 0] 71)).alloc (.cells #[.string s, .string s, .int .i64 0, .int .i64 0, .int .i64 0, .int .i64 0, .int .i64 0] 68)) (wr.heap.size + 1) 68 (⟨s, s, 0, 0, 0, 0, 0⟩ : Qn).cs := blk_at _ _ _ hszA.symm
      have kz : Below wr.heap.size wr ((wr.alloc (.cells #[.pointer (some ⟨rb, 0, none⟩), .int .i64 now, .int .i64 draw, .slice none 0 0, .slice none 0 0] 71)).alloc (.cells #[.string s, .string s, .int .i64 0, .int .i64 0, .int .i64 0, .int .i64 0, .int .i64 0] 68)) := al (al (rf wr) _) _
      have WB0 : Blk ((wr.alloc (.cells #[.pointer (some ⟨rb, 0, none⟩), .int .i64 now, .int .i64 draw, .slice none 0 0, .slice none 0 0] 71)).alloc (.cells #[.string s, .string s, .int .i64 0, .int .i64 0, .int .i64 0, .int .i64 0, .int .i64 0] 68)) wr.heap.size 71 #[.pointer (some ⟨rb, 0, none⟩), .int .i64 now, .int .i64 draw, .slice none 0 0, .slice none 0 0] := WA.out.alloc _
      have hwpos : 0 < w.heap.size := by omega
      have hkm : IsKp ((wr.alloc (.cells #[.pointer (some ⟨rb, 0, none⟩), .int .i64 now, .int .i64 draw, .slice none 0 0, .slice none 0 0] 71)).alloc (.cells #[.string s, .string s, .int .i64 0, .int .i64 0, .int .i64 0, .int .i64 0, .int .i64 0] 68)) B z.km AA ac L D := KR.out.nx kz
      have hgn : wr.heap.size + 1 ∉ z.qs.map (·.1) := fun h => by
        obtain ⟨x, hx, e⟩ := List.mem_map.1 h
        have := (RR.out.q x hx).1.lt
        omega
      have b02 : Below w.heap.size w ((wr.alloc (.cells #[.pointer (some ⟨rb, 0, none⟩), .int .i64 now, .int .i64 draw, .slice none 0 0, .slice none 0 0] 71)).alloc (.cells #[.string s, .string s, .int .i64 0, .int .i64 0, .int .i64 0, .int .i64 0, .int .i64 0] 68)) := nx (nx B1.out Bz.out) kz
      have B02 := Lib.hid b02
      have HGO := goesN _ B w.heap.size wr.heap.size rb (wr.heap.size + 1) z now draw [] none 0 [] none 0 AA ac L D ⟨s, s, 0, 0, 0, 0, 0⟩ p (RR.out.nx kz) ⟨WB0, zz, World.ownsRow_nil _ _ _ _, World.ownsRow_nil _ _ _ _, by simp, by simp⟩ HQS.out QB0 hkm hlk hl had hns (by simp) hB b02.size
      refine HGO.mono ?_
      rintro e w8 ⟨A8, k8, rfl, F8, f8, Q8, n8, R8, W8, K8, N8, B8⟩
      have HR8 := Lib.hid R8
      have HW8 := Lib.hid W8
      have HN8 := Lib.hid N8
      have HB8 := Lib.hid B8
      have y3 := W8.b.cell 3
      have y4 := W8.b.cell 4
      simp only [List.getElem?_toArray, List.getElem?_cons_zero, List.getElem?_cons_succ] at y3 y4
      have hgw : w.heap.size ≤ wr.heap.size + 1 := by omega
      clear R8 W8 K8 N8 B8 HGO hkm hgn WB0 kz QB0 hszA b02
      go_wp2
      go_quiet (fail)
      go_wp2
      go_ret2
      refine ⟨A8, k8, Q8, n8, F8, none, f8, 0, rfl, HR8.out.nx (dn (rf w8) _), ?_, ?_, ?_, by simp, ?_, ?_⟩
      · exact own_nx HW8.out.f (dn (rf w8) _)
      · exact World.ownsRow_nil _ _ _ _
      · exact fun x hx => own_nx (HW8.out.fd x hx) (dn (rf w8) _)
      · exact ((KeepT.of_below B02.out (Nat.le_refl _)).trans (HN8.out.mono (by decide))).trans (KeepT.of_below (dn (rf w8) _) (by have := B02.out.size; have := HB8.out.size; omega))
      · exact ((B02.out.mono hB).trans HB8.out).trans ((dn (rf w8) _).mono (by have := B02.out.size; have := HB8.out.size; omega))
end
section
open Go.RowKit Go.Maps

def BadP (w : World) (s : ByteArray) (e : Ending) (w' : World) : Prop :=
  ∃ g : Nat, e = .returned (.tuple #[.slice (some ⟨g, 0, none⟩) 1 1, .slice none 0 0]) ∧ Blk w' g 39 #[.string s, .int .i64 9, .slice none 0 0] ∧ Below w.heap.size w w'
set_option maxRecDepth 100000 in
set_option maxHeartbeats 1600000 in
theorem askBad (w : World) (B rb : Nat) (z : Rz) (s : ByteArray) (now draw : Int) (hR : IsRv w B rb z) (hm : MaxL w) (hbad : isN s.data.toList = false ∨ s.size = 0) (hns : s.size ≤ 3000) (s1 : 1 ≤ z.sv.length) :
    Calls Tryd.prog 11 #[.pointer (some ⟨rb, 0, none⟩), .string s, .int .i64 now, .int .i64 draw] w (BadP w s) := by
  have r0 := hR.b.cell 0
  simp only [Rz.cs, List.getElem?_toArray, List.getElem?_cons_zero] at r0
  have HP := Lib.hid (packC s w (by omega) hm)
  have hl0 : ((z.sv.length : Int) == 0) = false := by rw [beq_eq_false_iff_ne]; omega
  have hse : s.size = 0 → s = ⟨#[]⟩ := fun h => by
    obtain ⟨d⟩ := s
    have h2 : d.size = 0 := h
    have := Array.eq_empty_of_size_eq_zero h2
    rw [this]
  have HSE := Lib.hid hse
  have HBAD := Lib.hid hbad
  clear hR hm hse hbad
  have FB : ∀ w1 : World, Blk (w1.alloc (.cells #[.string s, .int .i64 9, .slice none 0 0] 39)) w1.heap.size 39 #[.string s, .int .i64 9, .slice none 0 0] := fun w1 => Blk.new w1 _ _
  have HFB := Lib.hid FB
  clear FB
  go_enter Tryd.func11, Tryd.ntmps11
  go_wp2_with fail
  refine HP.out.mono ?_
  rintro e w1 (⟨hN, A, c, rfl, own, b1⟩ | ⟨hf, rfl, b1⟩)
  · have hs0 : s.size = 0 := by
      rcases HBAD.out with h | h
      · exact absurd (hN.symm.trans h) (by simp)
      · exact h
    obtain rfl := HSE.out hs0
    have B1 := Lib.hid b1
    clear own b1 r0 HP hN hs0
    go_wp2
    go_ret2
    exact ⟨w1.heap.size, rfl, HFB.out _, nx B1.out (al (rf w1) _)⟩
  · have B1 := Lib.hid b1
    clear b1 r0 HP hf
    go_wp2
    go_ret2
    exact ⟨w1.heap.size, rfl, HFB.out _, nx B1.out (al (rf w1) _)⟩
set_option maxHeartbeats 800000 in
theorem newC2 (w : World) (A : Option Addr) (sv : List Int) (c : Nat) (port : Int) (hr : Reads w w.heap.size 1 A sv.length (sv.map (Value.int .u32))) (h0 : A = none → sv.length = 0) (h1 : 1 ≤ sv.length) (h3 : sv.length ≤ 3) (p1 : 1 ≤ port) (p2 : port ≤ 65535) :
    Calls Tryd.prog 10 #[.slice A sv.length c, .int .i64 port] w fun e w' => ∃ z rb, e = .returned (.tuple #[ptr rb, .int .i64 0]) ∧ IsRv w' w.heap.size rb z ∧ KE w' z.km ∧ z.sv = sv ∧ z.port = port ∧ z.sent = 0 ∧ z.qs = [] ∧ z.QA = none ∧ z.qc = 0 ∧ z.age = .slice none 0 0 ∧ w.heap.size ≤ z.km ∧ Below w.heap.size w w' := by
  have HC := Lib.hid (cloneAd A sv.length c _ w hr (one_all sv (fun _ => rfl)) (by omega) h0)
  have hmk : ∀ w, (Instr.makeMap 60 none).run Tryd.prog w = .ok (.map (some w.heap.size)) (w.alloc (.map #[] 0)) := fun w => by simp [Instr.makeMap]
  have l1 : ¬ (sv.length : Int) < 1 := by omega
  have l3 : ¬ (3 : Int) < sv.length := by omega
  have l4 : ¬ port < 1 := by omega
  have l5 : ¬ 65535 < port := by omega
  clear hr h0 h1 h3 p1 p2
  go_enter Tryd.func10, Tryd.ntmps10
  go_wp2_with fail
  refine HC.out.mono ?_
  rintro e w1 ⟨A1, c1, rfl, own, b1⟩
  have OW := Lib.hid own
  have B1 := Lib.hid b1
  have hs1 := b1.size
  clear own b1
  go_wp2
  go_ret2
  have KM : KE (w1.alloc (.map #[] 0)) w1.heap.size := World.ownsMap_made w1 _ _ _
  have k2 : Below (w1.alloc (.map #[] 0)).heap.size (w1.alloc (.map #[] 0)) ((w1.alloc (.map #[] 0)).alloc (.cells #[.slice A1 sv.length c1, .int .i64 port, .int .i64 0, .slice none 0 0, .map (some w1.heap.size), .slice none 0 0] 64)) := al (rf _) _
  refine ⟨⟨sv, A1, c1, port, 0, [], none, 0, w1.heap.size, .slice none 0 0⟩, w1.heap.size + 1, rfl, ⟨blk_at _ _ _ (by simp), by omega, ?_, World.ownsRow_nil _ _ _ _, by simp, by simp⟩, KM.nx k2, rfl, rfl, rfl, rfl, rfl, rfl, rfl, hs1, ?_⟩
  · exact (OW.out.alloc _).alloc _
  · exact nx B1.out (al (al (rf w1) _) _)
end
end Go.Proofs.YtpfkmmmlocmakaaDoor
