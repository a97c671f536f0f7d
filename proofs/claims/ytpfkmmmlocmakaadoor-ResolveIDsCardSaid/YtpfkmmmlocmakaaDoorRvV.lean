/-
  Resolve: ends and over, of the one question there is.
-/
import Derived.Test.YtpfkmmmlocmakaaDoorRvQ
import Derived.Test.YtpfkmmmlocmakaaDoorChe
set_option linter.unusedVariables false
namespace Go.Proofs.YtpfkmmmlocmakaaDoor
section
open Go.RowKit Go.Maps Go.Proofs.YtpfkmmmlocmakaaDoor.Chq

set_option maxRecDepth 100000 in
theorem isItC (w : World) (g bx : Nat) (h : Blk w bx 66 #[.pointer (some ⟨g, 0, none⟩)]) (hg : IsB w g) : Calls Tryd.prog 59 #[.pointer (some ⟨g, 0, none⟩), .pointer (some ⟨bx, 0, none⟩)] w fun e w' => e = .returned (.bool true) ∧ w' = w := by
  have c0 : w.cell? ⟨bx, 0, none⟩ = some (.pointer (some ⟨g, 0, none⟩)) := h.cell 0
  have HE := ptr_eq hg hg
  rw [beq_self_eq_true] at HE
  clear h hg
  go_enter Tryd.func59, Tryd.ntmps59
  go_wp2
  go_ret
  exact ⟨rfl, rfl⟩
set_option maxRecDepth 100000 in
theorem index1 (w : World) (g bx r c : Nat) (cur : Array Value) (h : Blk w bx 66 #[.pointer (some ⟨g, 0, none⟩)]) (hg : IsB w g) (hr : Blk w r 66 cur) (hc : cur[0]? = some (.pointer (some ⟨g, 0, none⟩))) :
    Calls Tryd.prog 72 #[.slice (some ⟨r, 0, none⟩) 1 c, .func (.func 59) #[] #[.pointer (some ⟨bx, 0, none⟩)]] w fun e w' => e = .returned (.int .i64 0) ∧ w' = w := by
  have HI := Lib.hid (isItC w g bx h hg)
  have c0 : w.cell? ⟨r, 0, none⟩ = some (.pointer (some ⟨g, 0, none⟩)) := (hr.cell 0).trans hc
  obtain ⟨wz, hwz⟩ : ∃ wz, wz = w := ⟨_, rfl⟩
  have HWZ := Lib.hid hwz
  clear h hg hr hc hwz
  go_enter Tryd.func72, Tryd.ntmps72
  go_wp2
  go_loopw [8] (fun kv ws => kv = .int .i64 0 ∧ Hid (ws = wz)) (fun _ _ => 0)
  case atStart => exact ⟨rfl, HWZ.out.symm⟩
  case round =>
    obtain ⟨rfl, HW⟩ := hrel
    have ew : wr = w := HW.out.trans HWZ.out
    subst ew
    go_wp2_with fail
    refine HI.out.mono ?_
    rintro e w2 ⟨rfl, hw2⟩
    have hw3 := hw2.symm
    subst hw3
    clear hw2 HI
    go_wp2
    go_ret
    exact ⟨rfl, rfl⟩
set_option maxRecDepth 100000 in
theorem delete1 (w : World) (g bx r c : Nat) (cur : Array Value) (hc1 : 1 ≤ c) (h : Blk w bx 66 #[.pointer (some ⟨g, 0, none⟩)]) (hg : IsB w g) (hr : Blk w r 66 cur) (hc : cur[0]? = some (.pointer (some ⟨g, 0, none⟩))) :
    Calls Tryd.prog 58 #[.slice (some ⟨r, 0, none⟩) 1 c, .func (.func 59) #[] #[.pointer (some ⟨bx, 0, none⟩)]] w fun e w' => e = .returned (.slice (some ⟨r, 0, none⟩) 0 c) ∧ w' = w.setCell ⟨r, 0, none⟩ (.pointer none) := by
  have HI := Lib.hid (index1 w g bx r c cur h hg hr hc)
  have c0 : w.cell? ⟨r, 0, none⟩ = some (.pointer (some ⟨g, 0, none⟩)) := (hr.cell 0).trans hc
  have f0 := hr.frozen 0
  obtain ⟨wz, hwz⟩ : ∃ wz, wz = w := ⟨_, rfl⟩
  have HWZ := Lib.hid hwz
  clear h hg hr hc hwz
  go_enter Tryd.func58, Tryd.ntmps58
  go_wp2_with fail
  refine HI.out.mono ?_
  rintro e w2 ⟨rfl, hw2⟩
  have hw3 := hw2.symm
  subst hw3
  clear hw2 HI
  go_wp2
  go_loopw [5, 6] (fun iv kv ws => iv = .int .i64 0 ∧ kv = .int .i64 1 ∧ Hid (ws = wz)) (fun _ _ _ => 0)
  case atStart => exact ⟨rfl, rfl, HWZ.out.symm⟩
  case round =>
    obtain ⟨rfl, rfl, HW⟩ := hrel
    have ew : wr = w := HW.out.trans HWZ.out
    subst ew
    have hk : ∀ j, j < 1 → (wr.cell? ⟨r, 0 + j, none⟩).isSome = true := fun j hj => by
      obtain rfl : j = 0 := by omega
      rw [Nat.zero_add, c0]; rfl
    have hf : ∀ j, j < 1 → wr.frozen? ⟨r, 0 + j, none⟩ = false := fun j hj => by
      obtain rfl : j = 0 := by omega
      exact f0
    have hcl : ∀ ty, (Builtin.clear_ #[61] ty #[.slice (some ⟨r, 0, none⟩) 1 c]).run Tryd.prog wr = .ok (.tuple #[]) (wr.setCells r 0 [.pointer none]) :=
      fun ty => Lib.run_clear_slice wr _ _ ty (.pointer none) Tryd.underlying61 (fun w => by kernel_rfl) rfl rfl r 0 1 c (by omega) hk hf
    clear hk hf
    have c1 : (0 : Int) ≤ c := by omega
    have c2 : ¬ (c : Int) < 1 := by omega
    go_wp2
    go_ret
    exact ⟨rfl, rfl⟩
end
section
open Go.RowKit Go.Maps Go.Proofs.YtpfkmmmlocmakaaDoor.Chq

theorem cloneNil (w : World) (n c : Nat) : Calls Tryd.prog 18 #[.slice none n c] w fun e w' => e = .returned (.slice none 0 0) ∧ w' = w := by
  have Q : ∀ (w : World) (a : Option Addr) (n c : Nat), (binOp .eql 22 (.slice a n c) (.slice none 0 0)).run Tryd.prog w = .ok (.bool a.isNone) w := fun w a n c => Lib.run_eql_slice_nil w _ _ a n c 0 0 Tryd.underlying22
  go_enter Tryd.func18, Tryd.ntmps18
  go_wp2
  go_ret
  exact ⟨rfl, rfl⟩
theorem stFd : SliceTy Tryd.prog 28 39 3 48 (.agg #[.string ⟨#[]⟩, .int .i64 0, .slice none 0 0]) := ⟨Tryd.underlying28, by kernel_rfl, rfl, by omega⟩
theorem reads3 {w : World} {g : Nat} {t : TypeId} {cs : List Value} (h : Blk w g t cs.toArray) (hl : cs.length = 3) : Reads w w.heap.size 3 (some ⟨g, 0, none⟩) 1 cs :=
  ⟨by rw [hl], fun _ => ⟨_, rfl, h.lt, fun j u hu => by rw [Addr.add_mid, Nat.zero_add, h.cell j]; simpa using hu⟩⟩
def EndP (w : World) (B N wb rb : Nat) (z : Rz) (now draw : Int) (fs : List Fd) (ds : List Dg) (DA : Option Addr) (dc : Nat) (d : Fd) (e : Ending) (w' : World) : Prop :=
  e = .returned (.tuple #[]) ∧ ∃ (FA' : Option Addr) (fc' : Nat) (QA' : Option Addr) (qc' : Nat),
    IsRv w' B rb { z with qs := [], QA := QA', qc := qc' } ∧ IsWk w' N wb rb now draw (fs ++ [d]) FA' fc' ds DA dc ∧
    KeepT w.heap.size [64, 66, 71, 39] w w' ∧ KeepT N [64, 66] w w' ∧ Below B w w'
set_option maxRecDepth 100000 in
set_option maxHeartbeats 1600000 in
theorem endsC1 (w : World) (B N wb rb g : Nat) (z : Rz) (now draw : Int) (fs : List Fd) (FA : Option Addr) (fc : Nat) (ds : List Dg) (DA : Option Addr) (dc : Nat) (q : Qn) (err : Int)
    (hR : IsRv w B rb z) (hW : IsWk w N wb rb now draw fs FA fc ds DA dc) (hqs : z.qs = [(g, q)]) (hfs : fs.length ≤ 1000000) (hBN : B ≤ N) (hN : N ≤ w.heap.size) :
    Calls Tryd.prog 42 #[.pointer (some ⟨wb, 0, none⟩), .pointer (some ⟨g, 0, none⟩), .int .i64 err, .slice none 0 0] w (EndP w B N wb rb z now draw fs ds DA dc ⟨q.first, err, [], none, 0⟩) := by
  have hmem : (g, q) ∈ z.qs := by rw [hqs]; simp
  have hq := (hR.q _ hmem).1
  have hown := hR.qs
  rw [hqs] at hown
  obtain ⟨r, cap, hv, hBr, hrl, hc1, hcm, cur, hcur, hcs, htk⟩ := own_form hown (by simp)
  injection hv with hv1 _ hv3
  have hcur0 : cur[0]? = some (.pointer (some ⟨g, 0, none⟩)) := by
    have h := congrArg (fun l : List Value => l[0]?) htk
    simp only [List.getElem?_take_of_lt (show 0 < [(g, q)].length by simp), Array.getElem?_toList] at h
    exact h
  have b1 : Below w.heap.size w (w.alloc (.cells #[.pointer (some ⟨g, 0, none⟩)] 66)) := al (rf w) _
  have BX : Blk (w.alloc (.cells #[.pointer (some ⟨g, 0, none⟩)] 66)) w.heap.size 66 #[.pointer (some ⟨g, 0, none⟩)] := Blk.new _ _ _
  have HR := Lib.hid hR
  have HWk := Lib.hid hW
  have HQ := Lib.hid hq
  have HQS := Lib.hid hqs
  have HCU := Lib.hid hcur
  have HC0 := Lib.hid hcur0
  have HB1 := Lib.hid b1
  have HBX := Lib.hid BX
  have HV1 := Lib.hid hv1
  have HV3 := Lib.hid hv3
  have HTK := Lib.hid htk
  have HCS := Lib.hid hcs
  clear hR hW hq hqs hcur hcur0 b1 BX hv1 hv3 htk hcs hown hmem
  go_enter Tryd.func42, Tryd.ntmps42
  go_wp2
  generalize w.alloc (.cells #[.pointer (some ⟨g, 0, none⟩)] 66) = w1 at HB1 HBX ⊢
  have R1 := Lib.hid (HR.out.nx HB1.out)
  have W1 := Lib.hid (HWk.out.nx HB1.out)
  have CU1 := Lib.hid (HCU.out.nx HB1.out)
  have Q1 := Lib.hid (HQ.out.nx HB1.out)
  have hz1 := HB1.out.size
  obtain ⟨zcs, hzcs⟩ : ∃ zcs, zcs = z.cs := ⟨_, rfl⟩
  have nrw : wb ≠ rb := W1.out.b.ne_ R1.out.b (by decide)
  have nwr : wb ≠ r := W1.out.b.ne_ CU1.out (by decide)
  have nrr : r ≠ rb := CU1.out.ne_ R1.out.b (by decide)
  have hQA : z.QA = some ⟨r, 0, none⟩ := HV1.out
  have hQC : z.qc = cap := HV3.out
  have e0 : ∀ x : Ge w1 rb (fun i => i = r) 64 zcs, x.w.cell? ⟨wb, 0, none⟩ = some (.pointer (some ⟨rb, 0, none⟩)) := fun x => (x.blk W1.out.b nrw nwr).cell 0
  have e3 : ∀ x : Ge w1 rb (fun i => i = r) 64 zcs, x.w.cell? ⟨rb, 3, none⟩ = some (.slice (some ⟨r, 0, none⟩) 1 cap) := fun x => by
    rw [x.z.cell, hzcs]
    show some (Value.slice z.QA z.qs.length z.qc) = _
    rw [hQA, hQC, HQS.out]; rfl
  have RBc : Hid (Blk w1 rb 64 zcs) := by show Blk _ _ _ _; rw [hzcs]; exact R1.out.b
  have hne1 : Nonempty (Ge w1 rb (fun i => i = r) 64 zcs) := ⟨⟨w1, Ce.refl _ _ _, RBc.out⟩⟩
  have HD := delete1 w1.drew g w.heap.size r cap cur hc1 HBX.out ⟨_, _, Q1.out⟩ CU1.out HC0.out
  have HD1 := Lib.hid HD
  have NRR := Lib.hid nrr
  have HZC := Lib.hid hzcs
  clear HD nrw nwr nrr hQA hQC hzcs
  refine wp_region_che rb (fun i => i = r) 64 zcs 15 (by kernel_rfl) (by kernel_rfl) (by kernel_rfl) (by kernel_rfl) RBc.out ?_
  iterate 11 (refine che_early (by kernel_rfl) (by kernel_rfl) (by kernel_rfl) ?_; intro K hK; go_big_quiet_op; go_big_quiet_on)
  refine che_one w1.drew w1.drew (.func (.func 59) #[] #[.pointer (some ⟨w.heap.size, 0, none⟩)]) (by kernel_rfl) (by kernel_rfl) (.inl (by first | rfl | (unfold execOp; simp [go_sem]))) (fun h => h) (fun _ h => h) ?_
  go_frame
  refine che_call w1.drew (w1.drew.setCell ⟨r, 0, none⟩ (.pointer none)) (.slice (some ⟨r, 0, none⟩) 0 cap) 58 #[.slice (some ⟨r, 0, none⟩) 1 cap, .func (.func 59) #[] #[.pointer (some ⟨w.heap.size, 0, none⟩)]] (by kernel_rfl) (by kernel_rfl) (by kernel_rfl) HD1.out (fun hC => ⟨hC.os, hC.tape, hC.output, Nat.le_trans hC.size (by simp [World.setCell]), fun i hi h1 h2 => (Below.heap_setCell w1.drew ⟨r, 0, none⟩ _ i h2).trans (hC.block i hi h1 h2)⟩) (fun _ hz => hz.far (p := ⟨r, 0, none⟩) NRR.out.symm _) ?_
  go_frame
  iterate 2 (refine che_early (by kernel_rfl) (by kernel_rfl) (by kernel_rfl) ?_; intro K hK; go_big_quiet_op; go_big_quiet_on)
  have RB6 : Hid (Blk (w1.drew.setCell ⟨r, 0, none⟩ (.pointer none)) rb 64 zcs) := Blk.far (p := ⟨r, 0, none⟩) (RBc.out.drew) NRR.out.symm _
  have h1 : (w1.drew.setCell ⟨r, 0, none⟩ (.pointer none)).cell? ⟨rb, 3, none⟩ = some (.slice (some ⟨r, 0, none⟩) 1 cap) := by
    rw [RB6.out.cell, HZC.out]
    show some (Value.slice z.QA z.qs.length z.qc) = _
    have a1 : z.QA = some ⟨r, 0, none⟩ := HV1.out
    have a2 : z.qc = cap := HV3.out
    rw [a1, a2, HQS.out]; rfl
  have h2 := RB6.out.frozen 3
  refine che_store (w1.drew.setCell ⟨r, 0, none⟩ (.pointer none)) (by kernel_rfl) 61 (.tmp 22) (.tmp 20) rfl rfl 3 (.slice (some ⟨r, 0, none⟩) 0 cap) rfl rfl (by generalize (w1.drew.setCell ⟨r, 0, none⟩ (.pointer none)) = wq at h1 h2 ⊢; simp [go_sem, h1, h2]) ?_
  go_frame
  refine che_nil ?_
  intro wz hC hz
  have hl1 : [(g, q)].length = 1 := rfl
  have KZ0 : ∀ n ts, n ≤ w1.heap.size → (n ≤ B ∨ (64 ∈ ts ∧ 66 ∈ ts)) → KeepT n ts w1 wz := fun n ts hn ht => by
    rw [hz]
    have k1 : KeepT n ts w1 (w1.drew.setCell ⟨r, 0, none⟩ (.pointer none)) := KeepT.of_set (w := w1.drew) CU1.out _ (by rcases ht with h | h; exact .inl (by omega); exact .inr h.2) hn
    exact k1.trans (KeepT.of_set RB6.out _ (by rcases ht with h | h; exact .inl (by have := R1.out.lo; omega); exact .inr h.1) (by simpa [World.setCell] using hn))
  have KZ1 := Lib.hid (KZ0 w1.heap.size [64, 66] (Nat.le_refl _) (.inr ⟨by simp, by simp⟩))
  have BZ : Hid (Below B w1 wz) := by
    show Below _ _ _
    rw [hz]
    exact (((Below.refl B w1).drew).setCell hBr _).setCell R1.out.lo _
  have RZ : Hid (IsRv wz B rb { z with qs := [], QA := some ⟨r, 0, none⟩, qc := cap }) := by
    refine ⟨?_, R1.out.lo, KZ1.out.own R1.out.sv (by decide), ?_, by simp, by simp⟩
    · have h := RB6.out.set_ 3 (.slice (some ⟨r, 0, none⟩) 0 cap)
      rw [← hz, HZC.out] at h
      exact h
    · have ho := R1.out.qs
      rw [HQS.out] at ho
      rcases ho.2 with ⟨_, h0⟩ | ⟨g2, cap2, cur2, e2, hB2, hh2, a1, a2, a3, a4⟩
      · exact absurd h0 (by simp)
      · injection e2 with e3 _ e5
        have a0 : z.QA = some ⟨r, 0, none⟩ := HV1.out
        rw [a0] at e3
        injection e3 with e3
        injection e3 with e3
        have a6 : z.qc = cap := HV3.out
        rw [a6] at e5
        subst e3 e5
        refine ⟨rfl, .inr ⟨r, cap, cur2.setIfInBounds 0 (.pointer none), rfl, hB2, ?_, Nat.zero_le _, a2, by rw [Array.size_setIfInBounds]; exact a3, by simp⟩⟩
        rw [hz]
        exact Blk.far (p := ⟨rb, 3, none⟩) (Blk.set_ (show Blk w1.drew r _ cur2 from hh2) 0 _) NRR.out _
  have WZ := Lib.hid (W1.out.keep KZ1.out (by decide) (by decide) (by decide) (by decide) (by decide))
  have QZ := Lib.hid (KZ1.out.blk_ Q1.out (by decide))
  have XZ : Hid (Blk wz w.heap.size 66 #[.pointer (some ⟨g, 0, none⟩)]) := by
    show Blk _ _ _ _
    rw [hz]
    exact Blk.far (p := ⟨rb, 3, none⟩) (Blk.far (p := ⟨r, 0, none⟩) (show Blk w1.drew w.heap.size _ _ from HBX.out) (by show w.heap.size ≠ r; omega) _) (HBX.out.ne_ R1.out.b (by decide)) _
  have hzs : Hid (w1.heap.size ≤ wz.heap.size) := by show _ ≤ _; rw [hz]; simp [World.setCell]
  have KN1 := Lib.hid (KZ0 N [64, 66] (by omega) (.inr ⟨by simp, by simp⟩))
  clear e0 e3 hne1 RB6 h1 h2 hC hz KZ0 RBc HD1 hc1 hcm hl1 HCU HC0 HTK HCS CU1
  -- what is found
  obtain ⟨Fv, hFv⟩ : ∃ Fv, Fv = Value.slice FA fs.length fc := ⟨_, rfl⟩
  obtain ⟨wcs, hwcs⟩ : ∃ wcs, wcs = #[ptr rb, .int .i64 now, .int .i64 draw, .slice FA fs.length fc, .slice DA ds.length dc] := ⟨_, rfl⟩
  have own_ne : ∀ {t : TypeId} {i : Nat} {cs : Array Value}, Blk wz i t cs → 39 ≠ t → ¬ (Fv.ownBlock = some i) := fun {t i cs} hb hne => by rw [hFv]; exact own_blk_ne WZ.out.f hb hne
  have ngw : g ≠ wb := QZ.out.ne_ WZ.out.b (by decide)
  have nxw : w.heap.size ≠ wb := XZ.out.ne_ WZ.out.b (by decide)
  have e3 : ∀ x : Ge wz wb (fun i => Fv.ownBlock = some i) 71 wcs, x.w.cell? ⟨wb, 3, none⟩ = some (.slice FA fs.length fc) := fun x => by rw [x.z.cell, hwcs]; rfl
  have ex : ∀ x : Ge wz wb (fun i => Fv.ownBlock = some i) 71 wcs, x.w.cell? ⟨w.heap.size, 0, none⟩ = some (.pointer (some ⟨g, 0, none⟩)) := fun x => (x.blk XZ.out nxw (own_ne XZ.out (by decide))).cell 0
  have eg : ∀ x : Ge wz wb (fun i => Fv.ownBlock = some i) 71 wcs, x.w.cell? ⟨g, 0, none⟩ = some (.string q.first) := fun x => (x.blk QZ.out ngw (own_ne QZ.out (by decide))).cell 0
  have hne1 : Nonempty (Ge wz wb (fun i => Fv.ownBlock = some i) 71 wcs) := ⟨⟨wz, Ce.refl _ _ _, by rw [hwcs]; exact WZ.out.b⟩⟩
  have WBc : Hid (Blk wz wb 71 wcs) := by show Blk _ _ _ _; rw [hwcs]; exact WZ.out.b
  have OFW : Fv.ownBlock ≠ some wb := own_ne WZ.out.b (by decide)
  have HFV := Lib.hid hFv
  have HWCS := Lib.hid hwcs
  have hNz : Hid (N ≤ wz.heap.size) := Nat.le_trans hN (Nat.le_trans hz1 hzs.out)
  clear own_ne ngw nxw hFv hwcs
  go_wp2
  refine wp_region_che wb (fun i => Fv.ownBlock = some i) 71 wcs 17 (by kernel_rfl) (by kernel_rfl) (by kernel_rfl) (by kernel_rfl) WBc.out ?_
  iterate 11 (refine che_early (by kernel_rfl) (by kernel_rfl) (by kernel_rfl) ?_; intro K hK; go_big_quiet_op; go_big_quiet_on)
  refine che_call wz.drew wz.drew (.slice none 0 0) 18 #[.slice none 0 0] (by kernel_rfl) (by kernel_rfl) (by kernel_rfl) (cloneNil _ 0 0) (fun h => h) (fun _ h => h) ?_
  go_frame
  iterate 1 (refine che_early (by kernel_rfl) (by kernel_rfl) (by kernel_rfl) ?_; intro K hK; go_big_quiet_op; go_big_quiet_on)
  refine che_lit wz.drew (.cells #[.string q.first, .int .i64 err, .slice none 0 0] 39) (.slice (some ⟨wz.heap.size, 0, none⟩) 1 1) (by kernel_rfl) (by kernel_rfl) (by first | rfl | (unfold execOp; simp [go_sem])) ?_
  go_frame
  have OW1 : Hid ((wz.drew.alloc (.cells #[.string q.first, .int .i64 err, .slice none 0 0] 39)).ownsRow N 39 3 Fv fs.length (fs.flatMap Fd.cs)) := by
    show World.ownsRow _ _ _ _ _ _ _
    rw [HFV.out]
    exact (WZ.out.f.drew).alloc _
  refine che_app stFd (wz.drew.alloc (.cells #[.string q.first, .int .i64 err, .slice none 0 0] 39)) (by kernel_rfl) (.tmp 27) (.tmp 36) rfl N Fv fs.length (fs.flatMap Fd.cs) HFV.out.symm OW1.out (fun i h => .inl h) OFW (some ⟨wz.heap.size, 0, none⟩) 1 1 [.string q.first, .int .i64 err, .slice none 0 0] rfl (reads3 (Blk.new wz.drew _ _) rfl) (by intro u hu; simp only [List.mem_cons, List.not_mem_nil, or_false] at hu; rcases hu with rfl | rfl | rfl <;> rfl) (by omega) (by omega) (Nat.le_trans hNz.out (by simp)) (fun v6 w6 own6 gr6 at6 bel6 => ?_)
  obtain ⟨F6, n6, rfl⟩ := own_slice own6
  have O6 := Lib.hid own6
  have G6 := Lib.hid gr6
  have BL6 := Lib.hid bel6
  have WB6 : Hid (Blk w6 wb 71 wcs) := ((WBc.out.drew).alloc _).grown gr6 (fun e => OFW e.symm)
  clear own6 gr6 at6 bel6
  go_frame
  iterate 2 (refine che_early (by kernel_rfl) (by kernel_rfl) (by kernel_rfl) ?_; intro K hK; go_big_quiet_op; go_big_quiet_on)
  have h1 : w6.cell? ⟨wb, 3, none⟩ = some (.slice FA fs.length fc) := by rw [WB6.out.cell, HWCS.out]; rfl
  have h2 := WB6.out.frozen 3
  refine che_store w6 (by kernel_rfl) 28 (.tmp 39) (.tmp 37) rfl rfl 3 (.slice F6 (fs.length + 1) n6) rfl rfl (by simp [go_sem, h1, h2]) ?_
  go_frame
  refine che_nil ?_
  intro wy hC hy
  subst hy
  clear e3 ex eg hne1 hC
  have OWs : (wz.drew.alloc (.cells #[.string q.first, .int .i64 err, .slice none 0 0] 39)).ownsRow N 39 3 (.slice FA fs.length fc) fs.length (fs.flatMap Fd.cs) := by rw [← HFV.out]; exact OW1.out
  have G6s := G6.out
  rw [HFV.out] at G6s
  have kb : Below wz.heap.size wz (wz.drew.alloc (.cells #[.string q.first, .int .i64 err, .slice none 0 0] 39)) := al (rf wz).drew _
  have sz1 := kb.size
  have sz2 := G6s.size
  have hNw := hNz.out
  have nwb := WZ.out.lo
  have K1 : ∀ n, n ≤ wz.heap.size → ∀ ts, (n ≤ N ∨ (39 ∈ ts ∧ 71 ∈ ts)) → KeepT n ts wz (w6.setCell ⟨wb, 3, none⟩ (.slice F6 (fs.length + 1) n6)) := fun n hn ts ht => by
    have k1 : KeepT n ts wz (wz.drew.alloc (.cells #[.string q.first, .int .i64 err, .slice none 0 0] 39)) := KeepT.of_below kb hn
    have k2 : KeepT n ts (wz.drew.alloc (.cells #[.string q.first, .int .i64 err, .slice none 0 0] 39)) w6 := KeepT.of_row G6s OWs (by rcases ht with h | h; exact .inl h; exact .inr h.1) (by omega)
    have k3 : KeepT n ts w6 (w6.setCell ⟨wb, 3, none⟩ (.slice F6 (fs.length + 1) n6)) := KeepT.of_set WB6.out _ (by rcases ht with h | h; exact .inl (by omega); exact .inr h.2) (by omega)
    exact (k1.trans k2).trans k3
  have KA := K1 wz.heap.size (Nat.le_refl _) [71, 39] (.inr ⟨by simp, by simp⟩)
  have HWd := WZ.out
  go_wp2
  go_end0
  refine ⟨rfl, F6, n6, some ⟨r, 0, none⟩, cap, RZ.out.keep KA (by decide) (by decide) (by decide) (by decide), ⟨?_, HWd.lo, ?_, KA.own HWd.d (by decide), fun x hx => ?_, fun x hx => KA.own (HWd.dd x hx) (by decide)⟩, ?_, ?_, ?_⟩
  · have h3 := WB6.out.set_ 3 (.slice F6 (fs.length + 1) n6)
    rw [HWCS.out] at h3
    rw [List.length_append]
    exact h3
  · rw [List.length_append, List.flatMap_append]
    exact (KeepT.of_set (i := 3) (ts := [71]) WB6.out (.slice F6 (fs.length + 1) n6) (.inr (by simp)) (Nat.le_refl _)).own O6.out (by decide)
  · rcases List.mem_append.1 hx with hx | hx
    · exact KA.own (HWd.fd x hx) (by decide)
    · obtain rfl := List.mem_singleton.1 hx
      exact World.ownsRow_nil _ _ _ _
  · exact ((KeepT.of_below HB1.out (Nat.le_refl _)).trans ((KZ1.out.mono (by decide)).less hz1)).trans ((KA.mono (by decide)).less (by have := hzs.out; omega))
  · exact ((KeepT.of_below HB1.out hN).trans KN1.out).trans ((K1 N hNw [] (.inl (Nat.le_refl _))).mono (by decide))
  · exact (((HB1.out.mono (by omega)).trans BZ.out).trans ((kb.mono (by omega)).trans (BL6.out.mono hBN))).setCell (Nat.le_trans hBN nwb) _
end
section
open Go.RowKit Go.Maps

def Qn.srv (q : Qn) (s : Int) : Qn := { q with server := s }
theorem upd_one {z : Rz} {g : Nat} {q q' : Qn} (h : z.qs = [(g, q)]) : (z.upd g q').qs = [(g, q')] := by
  unfold Rz.upd
  simp [h]
def OvrP (w : World) (B N wb rb g : Nat) (z : Rz) (now draw : Int) (fs : List Fd) (FA : Option Addr) (fc : Nat) (ds : List Dg) (q : Qn) (s : Int) (e : Ending) (w' : World) : Prop :=
  e = .returned (.tuple #[]) ∧ ∃ (A : Option Addr) (k : Nat) (DA' : Option Addr) (dc' : Nat),
    IsRv w' B rb { z with sent := z.sent + 1, qs := [(g, (q.srv s).ask (idV draw z.sent) now)] } ∧
    IsWk w' N wb rb now draw fs FA fc (ds ++ [⟨z.port, svAt z s, askB (idV draw z.sent) q.name, A, k⟩]) DA' dc' ∧
    KeepT w.heap.size [68, 64, 71, 36] w w' ∧ KeepT N [68, 64] w w' ∧ Below B w w'
set_option maxRecDepth 100000 in
set_option maxHeartbeats 1600000 in
theorem overA (w : World) (B N wb rb g : Nat) (z : Rz) (now draw : Int) (fs : List Fd) (FA : Option Addr) (fc : Nat) (ds : List Dg) (DA : Option Addr) (dc : Nat) (q : Qn) (s : Int)
    (hR : IsRv w B rb z) (hW : IsWk w N wb rb now draw fs FA fc ds DA dc) (hqs : z.qs = [(g, q)]) (hm : MaxL w) (hs : s = (q.server + 1) % z.sv.length)
    (hn : isN q.name.data.toList = true) (hns : q.name.size ≤ 3000) (s0 : 0 ≤ q.server) (s1 : q.server < z.sv.length) (hsv : z.sv.length ≤ 3) (n0 : 0 ≤ now) (n1 : now ≤ 1152921504606846976) (a0 : 0 ≤ q.asked) (a1 : q.asked < 4) (e0 : 0 ≤ z.sent) (e1 : z.sent ≤ 1152921504606846976)
    (hds : ds.length ≤ 1000000) (hBN : B ≤ N) (hN : N ≤ w.heap.size) :
    Calls Tryd.prog 24 #[.pointer (some ⟨wb, 0, none⟩), .pointer (some ⟨g, 0, none⟩)] w (OvrP w B N wb rb g z now draw fs FA fc ds q s) := by
  have hmem : (g, q) ∈ z.qs := by rw [hqs]; simp
  have hq := (hR.q _ hmem).1
  have hgB := (hR.q _ hmem).2
  have T0 := Lib.hid (T4.start hq hR.b hW.b)
  have r0 : w.cell? ⟨rb, 0, none⟩ = some (.slice z.SA z.sv.length z.sc) := hR.b.cell 0
  have x0 : w.cell? ⟨wb, 0, none⟩ = some (.pointer (some ⟨rb, 0, none⟩)) := hW.b.cell 0
  have q5 : w.cell? ⟨g, 5, none⟩ = some (.int .i64 q.asked) := hq.cell 5
  have q4 : w.cell? ⟨g, 4, none⟩ = some (.int .i64 q.server) := hq.cell 4
  have f4 := hq.frozen 4
  have HR := Lib.hid hR
  have HWk := Lib.hid hW
  have HQ := Lib.hid hq
  have HM := Lib.hid hm
  have HQS := Lib.hid hqs
  have HS := Lib.hid hs
  have hz0 : ((z.sv.length : Int) == 0) = false := by rw [beq_eq_false_iff_ne]; omega
  have hz1 : ¬ (z.sv.length : Int) = 0 := by omega
  have hz2 : Hid (0 ≤ s ∧ s < z.sv.length) := by
    show _ ∧ _
    rw [hs]
    exact ⟨Int.emod_nonneg _ (by omega), Int.emod_lt_of_pos _ (by omega)⟩
  have hng : ¬ 4 ≤ q.asked := by omega
  clear hR hW hq hm hqs hmem hs
  go_enter Tryd.func24, Tryd.ntmps24
  go_wp2
  go_region
  rw [← HS.out]
  have T1 := Lib.hid ((T0.out.setG 4 (.int .i64 s)).drew)
  generalize (w.setCell ⟨g, 4, none⟩ (.int .i64 s)).drew = w7 at T1 ⊢
  have T2 : Hid (T4 w w7 g rb wb (q.srv s).cs z.cs #[ptr rb, .int .i64 now, .int .i64 draw, .slice FA fs.length fc, .slice DA ds.length dc]) := T1.out
  have hmem : (g, q) ∈ z.qs := by rw [HQS.out]; simp
  have R7 := Lib.hid (HR.out.of4 (s := z.sent) T2.out ⟨q, hmem⟩)
  have W7 := Lib.hid (HWk.out.of4 T2.out HQ.out HR.out.b)
  have K7 := Lib.hid (T2.out.keep (n := w.heap.size) HQ.out HR.out.b)
  have B7 := Lib.hid (T2.out.below hgB HR.out.lo)
  have M7 := Lib.hid (HM.out.of4 T2.out HQ.out HR.out.b)
  have hz7 := B7.out.size
  have e7 : ({ z.upd g (q.srv s) with sent := z.sent } : Rz) = { z with qs := [(g, q.srv s)] } := by
    have h := upd_one (q' := q.srv s) HQS.out
    unfold Rz.upd at h ⊢
    simp only at h ⊢
    rw [h]
  have R8 := R7.out
  rw [e7] at R8
  have AK := asksC w7 B N wb rb g { z with qs := [(g, q.srv s)] } now draw fs FA fc ds DA dc (q.srv s) R8 W7.out (by simp) M7.out hn hns hz2.out.1 hz2.out.2 hsv n0 n1 a0 (by show q.asked ≤ 1000; omega) e0 e1 hds hBN (by omega)
  have HAK := Lib.hid AK
  clear AK R8 r0 x0 q5 q4 f4 hmem T1
  go_wp2_with fail
  refine HAK.out.mono ?_
  rintro e w8 ⟨rfl, A8, k8, D8, d8, R8, W8, K8, N8, B8⟩
  have e8 : ({ ({ z with qs := [(g, q.srv s)] } : Rz).upd g ((q.srv s).ask (idV draw z.sent) now) with sent := z.sent + 1 } : Rz) = { z with sent := z.sent + 1, qs := [(g, (q.srv s).ask (idV draw z.sent) now)] } := by
    have h := upd_one (z := { z with qs := [(g, q.srv s)] }) (q' := (q.srv s).ask (idV draw z.sent) now) rfl
    unfold Rz.upd at h ⊢
    simp only at h ⊢
    rw [h]
  have HR8 := Lib.hid R8
  have HW8 := Lib.hid W8
  have HK8 := Lib.hid K8
  have HN8 := Lib.hid N8
  have HB8 := Lib.hid B8
  clear R8 W8 K8 N8 B8 HAK
  go_wp2
  go_end0
  have r8 := HR8.out
  rw [e8] at r8
  exact ⟨rfl, A8, k8, D8, d8, r8, HW8.out, (K7.out.mono (by decide)).trans ((HK8.out.mono (by decide)).less (by omega)), ((K7.out.less hN).mono (by decide)).trans (HN8.out.mono (by decide)), B7.out.trans HB8.out⟩
set_option maxRecDepth 100000 in
set_option maxHeartbeats 1600000 in
theorem overE (w : World) (B N wb rb g : Nat) (z : Rz) (now draw : Int) (fs : List Fd) (FA : Option Addr) (fc : Nat) (ds : List Dg) (DA : Option Addr) (dc : Nat) (q : Qn)
    (hR : IsRv w B rb z) (hW : IsWk w N wb rb now draw fs FA fc ds DA dc) (hqs : z.qs = [(g, q)]) (a1 : 4 ≤ q.asked) (hfs : fs.length ≤ 1000000) (hBN : B ≤ N) (hN : N ≤ w.heap.size) :
    Calls Tryd.prog 24 #[.pointer (some ⟨wb, 0, none⟩), .pointer (some ⟨g, 0, none⟩)] w (EndP w B N wb rb z now draw fs ds DA dc ⟨q.first, 30, [], none, 0⟩) := by
  have hmem : (g, q) ∈ z.qs := by rw [hqs]; simp
  have q5 : w.cell? ⟨g, 5, none⟩ = some (.int .i64 q.asked) := (hR.q _ hmem).1.cell 5
  have HE := Lib.hid (endsC1 w B N wb rb g z now draw fs FA fc ds DA dc q 30 hR hW hqs hfs hBN hN)
  clear hR hW hmem hqs
  go_enter Tryd.func24, Tryd.ntmps24
  go_wp2_with fail
  refine HE.out.mono ?_
  rintro e w1 h1
  have H1 := Lib.hid h1
  obtain ⟨rfl, _⟩ := h1
  go_wp2
  go_end0
  exact H1.out
end
end Go.Proofs.YtpfkmmmlocmakaaDoor
