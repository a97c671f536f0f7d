/-
  ResolveIDs: the last of many questions is answered (merged: deleted, ends, goes, of, Hear), and the walk.
-/
import Derived.Test.YtpfkmmmlocmakaaDoorRk3
import Derived.Test.YtpfkmmmlocmakaaDoorRk2
import Derived.Test.YtpfkmmmlocmakaaDoorRk5
import Derived.Test.YtpfkmmmlocmakaaDoorRvZ
import Derived.BigRegion
set_option linter.unusedVariables false
namespace Go.Proofs.YtpfkmmmlocmakaaDoor
section
open Go.RowKit Go.Maps Go.Proofs.YtpfkmmmlocmakaaDoor.Chq

set_option maxRecDepth 100000 in
theorem isNotC (w : World) (x g bx : Nat) (h : Blk w bx 66 #[.pointer (some ⟨g, 0, none⟩)]) (hx : IsB w x) (hg : IsB w g) (hne : x ≠ g) : Calls Tryd.prog 59 #[.pointer (some ⟨x, 0, none⟩), .pointer (some ⟨bx, 0, none⟩)] w fun e w' => e = .returned (.bool false) ∧ w' = w := by
  have c0 : w.cell? ⟨bx, 0, none⟩ = some (.pointer (some ⟨g, 0, none⟩)) := h.cell 0
  have HE := ptr_eq hx hg
  rw [show (x == g) = false by simpa using hne] at HE
  clear h hg hx
  go_enter Tryd.func59, Tryd.ntmps59
  go_wp2
  go_ret
  exact ⟨rfl, rfl⟩
set_option maxRecDepth 100000 in
theorem indexL (w : World) (g bx r c : Nat) (cur : Array Value) (gs : List Nat) (h : Blk w bx 66 #[.pointer (some ⟨g, 0, none⟩)]) (hg : IsB w g) (hgs : ∀ x ∈ gs, IsB w x ∧ x ≠ g) (hr : Blk w r 66 cur) (hc : ∀ (k x : Nat), (gs ++ [g])[k]? = some x → cur[k]? = some (.pointer (some ⟨x, 0, none⟩))) (hl : gs.length ≤ 1000) :
    Calls Tryd.prog 72 #[.slice (some ⟨r, 0, none⟩) (gs.length + 1) c, .func (.func 59) #[] #[.pointer (some ⟨bx, 0, none⟩)]] w fun e w' => e = .returned (.int .i64 gs.length) ∧ w' = w := by
  have HI := Lib.hid (isItC w g bx h hg)
  have HN : Hid (∀ x ∈ gs, Calls Tryd.prog 59 #[.pointer (some ⟨x, 0, none⟩), .pointer (some ⟨bx, 0, none⟩)] w fun e w' => e = .returned (.bool false) ∧ w' = w) := fun x hx => isNotC w x g bx h (hgs x hx).1 hg (hgs x hx).2
  have HC : Hid (∀ (k x : Nat), (gs ++ [g])[k]? = some x → w.cell? ⟨r, k, none⟩ = some (.pointer (some ⟨x, 0, none⟩))) := fun k x hx => (hr.cell k).trans (hc k x hx)
  obtain ⟨wz, hwz⟩ : ∃ wz, wz = w := ⟨_, rfl⟩
  have HWZ := Lib.hid hwz
  clear h hg hr hc hwz hgs
  go_enter Tryd.func72, Tryd.ntmps72
  go_wp2
  go_loopw [8] (fun kv ws => ∃ k : Nat, kv = .int .i64 k ∧ k ≤ gs.length ∧ Hid (ws = wz)) (fun kv _ => gs.length - (intOf kv).toNat)
  case atStart => exact ⟨0, rfl, Nat.zero_le _, HWZ.out.symm⟩
  case round =>
    obtain ⟨k, rfl, hk, HW⟩ := hrel
    have ew : wr = w := HW.out.trans HWZ.out
    subst ew
    have k0 : (0 : Int) ≤ k := by omega
    have k1 : (k : Int) < (gs.length : Int) + 1 := by omega
    by_cases hlt : k < gs.length
    · obtain ⟨x, hx⟩ : ∃ x, gs[k]? = some x := ⟨_, List.getElem?_eq_getElem hlt⟩
      have c0 := HC.out k x (by rw [List.getElem?_append_left hlt]; exact hx)
      have HX := Lib.hid (HN.out x (List.mem_of_getElem? hx))
      clear hx
      go_wp2_with fail
      refine HX.out.mono ?_
      rintro e w2 ⟨rfl, hw2⟩
      have hw3 := hw2.symm
      subst hw3
      clear hw2 HX
      go_wp2
      go_roundw
      case rel => exact ⟨k + 1, by go_num, by omega, HW.out⟩
      case measure => simp [intOf]; omega
    · obtain rfl : k = gs.length := by omega
      have c0 := HC.out gs.length g (by rw [List.getElem?_append_right (Nat.le_refl _)]; simp)
      go_wp2_with fail
      refine HI.out.mono ?_
      rintro e w2 ⟨rfl, hw2⟩
      have hw3 := hw2.symm
      subst hw3
      clear hw2 HI
      go_wp2
      go_ret
      exact ⟨rfl, rfl⟩
set_option maxRecDepth 100000 in
theorem deleteL (w : World) (g bx r c : Nat) (cur : Array Value) (gs : List Nat) (hc1 : gs.length + 1 ≤ c) (h : Blk w bx 66 #[.pointer (some ⟨g, 0, none⟩)]) (hg : IsB w g) (hgs : ∀ x ∈ gs, IsB w x ∧ x ≠ g) (hr : Blk w r 66 cur) (hc : ∀ (k x : Nat), (gs ++ [g])[k]? = some x → cur[k]? = some (.pointer (some ⟨x, 0, none⟩))) (hl : gs.length ≤ 1000) :
    Calls Tryd.prog 58 #[.slice (some ⟨r, 0, none⟩) (gs.length + 1) c, .func (.func 59) #[] #[.pointer (some ⟨bx, 0, none⟩)]] w fun e w' => e = .returned (.slice (some ⟨r, 0, none⟩) gs.length c) ∧ w' = w.setCell ⟨r, gs.length, none⟩ (.pointer none) := by
  have HI := Lib.hid (indexL w g bx r c cur gs h hg hgs hr hc hl)
  have c0 : w.cell? ⟨r, gs.length, none⟩ = some (.pointer (some ⟨g, 0, none⟩)) := (hr.cell _).trans (hc gs.length g (by rw [List.getElem?_append_right (Nat.le_refl _)]; simp))
  have f0 := hr.frozen gs.length
  obtain ⟨wz, hwz⟩ : ∃ wz, wz = w := ⟨_, rfl⟩
  have HWZ := Lib.hid hwz
  clear h hg hr hc hwz hgs
  go_enter Tryd.func58, Tryd.ntmps58
  go_wp2_with fail
  refine HI.out.mono ?_
  rintro e w2 ⟨rfl, hw2⟩
  have hw3 := hw2.symm
  subst hw3
  clear hw2 HI
  obtain ⟨m, hm⟩ : ∃ m, gs.length = m := ⟨_, rfl⟩
  rw [hm] at c0 f0 hc1 hl ⊢
  have HMM := Lib.hid hm
  clear hm
  have m1 : ((m : Int) == -1) = false := by rw [beq_eq_false_iff_ne]; omega
  go_wp2
  go_loopw [5, 6] (fun iv kv ws => iv = .int .i64 m ∧ kv = .int .i64 ((m : Int) + 1) ∧ Hid (ws = wz)) (fun _ _ _ => 0)
  case atStart => exact ⟨rfl, by go_num, HWZ.out.symm⟩
  case round =>
    obtain ⟨rfl, rfl, HW⟩ := hrel
    have ew : wr = w := HW.out.trans HWZ.out
    subst ew
    have hk : ∀ j, j < 1 → (wr.cell? ⟨r, m + j, none⟩).isSome = true := fun j hj => by
      obtain rfl : j = 0 := by omega
      rw [Nat.add_zero, c0]; rfl
    have hf : ∀ j, j < 1 → wr.frozen? ⟨r, m + j, none⟩ = false := fun j hj => by
      obtain rfl : j = 0 := by omega
      exact f0
    have hcl : ∀ ty, (Builtin.clear_ #[61] ty #[.slice (some ⟨r, m, none⟩) 1 (c - m)]).run Tryd.prog wr = .ok (.tuple #[]) (wr.setCells r m [.pointer none]) :=
      fun ty => Lib.run_clear_slice wr _ _ ty (.pointer none) Tryd.underlying61 (fun w => by kernel_rfl) rfl rfl r m 1 (c - m) (by omega) hk hf
    clear hk hf
    have c1 : (m : Int) ≤ c := by omega
    have c2 : ¬ (c : Int) < (m : Int) + 1 := by omega
    have c3 : c ≠ m := by omega
    have c5 : ¬ (m : Int) + 1 < (m : Int) + 1 := by omega
    have c6 : (m : Int) ≤ (m : Int) + 1 := by omega
    have c7 : (0 : Int) ≤ m := by omega
    have c8 : m + 1 - m = 1 := by omega
    go_wp2
    go_ret
    exact ⟨by rw [HMM.out]; rfl, by rw [HMM.out]; rfl⟩
end
section
open Go.RowKit Go.Maps Go.Proofs.YtpfkmmmlocmakaaDoor.Chq

def EndL (w : World) (B N wb rb : Nat) (z : Rz) (Z : List (Nat × Qn)) (now draw : Int) (fs : List Fd) (ds : List Dg) (DA : Option Addr) (dc : Nat) (d : Fd) (e : Ending) (w' : World) : Prop :=
  e = .returned (.tuple #[]) ∧ ∃ (FA' : Option Addr) (fc' : Nat) (QA' : Option Addr) (qc' : Nat),
    IsRv w' B rb { z with qs := Z, QA := QA', qc := qc' } ∧ IsWk w' N wb rb now draw (fs ++ [d]) FA' fc' ds DA dc ∧
    KeepT w.heap.size [64, 66, 71, 39] w w' ∧ KeepT N [64, 66] w w' ∧ Below B w w'
theorem last_cur {cur : Array Value} {Z : List (Nat × Qn)} {g : Nat} {q : Qn} {n : Nat} (hn : n = (Z ++ [(g, q)]).length) (htk : cur.toList.take n = (Z ++ [(g, q)]).map fun p => ptr p.1) : ∀ (k x : Nat), (Z.map (·.1) ++ [g])[k]? = some x → cur[k]? = some (.pointer (some ⟨x, 0, none⟩)) := fun k x h => by
  have e : Z.map (·.1) ++ [g] = (Z ++ [(g, q)]).map (·.1) := by simp
  rw [e, List.getElem?_map] at h
  obtain ⟨p, hp, rfl⟩ := Option.map_eq_some_iff.1 h
  have hk : k < n := by rw [hn]; exact (List.getElem?_eq_some_iff.1 hp).1
  have h2 := congrArg (fun l : List Value => l[k]?) htk
  simp only [List.getElem?_take_of_lt hk, Array.getElem?_toList, List.getElem?_map, hp, Option.map_some] at h2
  exact h2
set_option maxRecDepth 100000 in
set_option maxHeartbeats 1600000 in
theorem endsKL (w : World) (B N wb rb g : Nat) (z : Rz) (now draw : Int) (fs : List Fd) (FA : Option Addr) (fc : Nat) (ds : List Dg) (DA : Option Addr) (dc : Nat) (q : Qn) (err : Int) (Bx : Nat) (AD : Option Addr) (ads : List Int) (kd : Nat) (Z : List (Nat × Qn))
    (hR : IsRv w B rb z) (hW : IsWk w N wb rb now draw fs FA fc ds DA dc) (hqs : z.qs = Z ++ [(g, q)]) (hZl : Z.length ≤ 1000) (hAd : w.ownsRow Bx 33 1 (.slice AD ads.length kd) ads.length (ads.map (Value.int .u32))) (hads : ads.length ≤ 1000000) (hfs : fs.length ≤ 1000000) (hBN : B ≤ N) (hN : N ≤ w.heap.size) :
    Calls Tryd.prog 42 #[.pointer (some ⟨wb, 0, none⟩), .pointer (some ⟨g, 0, none⟩), .int .i64 err, .slice AD ads.length kd] w (fun e w' => ∃ (A' : Option Addr) (k' : Nat), EndL w B N wb rb z Z now draw fs ds DA dc ⟨q.first, err, ads, A', k'⟩ e w') := by
  have hmem : (g, q) ∈ z.qs := by rw [hqs]; simp
  have hq := (hR.q _ hmem).1
  have hown := hR.qs
  rw [hqs] at hown
  obtain ⟨r, cap, hv, hBr, hrl, hc1, hcm, cur, hcur, hcs, htk⟩ := own_form hown (by simp)
  injection hv with hv1 _ hv3
  have hcur0 := last_cur (n := (Z ++ [(g, q)]).length) rfl htk
  have hgn : ∀ x ∈ Z.map (·.1), x ≠ g := fun x hx e => by
    have hnd := hR.nd
    rw [hqs, List.map_append, List.nodup_append] at hnd
    exact hnd.2.2 x hx g (by simp) e
  have b1 : Below w.heap.size w (w.alloc (.cells #[.pointer (some ⟨g, 0, none⟩)] 66)) := al (rf w) _
  have BX : Blk (w.alloc (.cells #[.pointer (some ⟨g, 0, none⟩)] 66)) w.heap.size 66 #[.pointer (some ⟨g, 0, none⟩)] := Blk.new _ _ _
  have HAd := Lib.hid hAd
  have had0 : Hid (AD = none → ads.length = 0) := fun e => by
    rcases Nat.eq_zero_or_pos ads.length with h | h
    · exact h
    · obtain ⟨r2, cap2, hv2, _⟩ := own_form hAd h
      injection hv2 with a
      rw [e] at a
      cases a
  have HR := Lib.hid hR
  have HWk := Lib.hid hW
  have HQ := Lib.hid hq
  have HQS := Lib.hid hqs
  have HCU := Lib.hid hcur
  have HC0 := Lib.hid hcur0
  have HGN := Lib.hid hgn
  have hc1z : Z.length + 1 ≤ cap := by have h := hc1; rw [List.length_append] at h; exact h
  have HB1 := Lib.hid b1
  have HBX := Lib.hid BX
  have HV1 := Lib.hid hv1
  have HV3 := Lib.hid hv3
  have HTK := Lib.hid htk
  have HCS := Lib.hid hcs
  clear hAd hR hW hq hqs hcur hcur0 hgn hc1 b1 BX hv1 hv3 htk hcs hown hmem
  go_enter Tryd.func42, Tryd.ntmps42
  go_wp2
  generalize w.alloc (.cells #[.pointer (some ⟨g, 0, none⟩)] 66) = w1 at HB1 HBX ⊢
  have R1 := Lib.hid (HR.out.nx HB1.out)
  have W1 := Lib.hid (HWk.out.nx HB1.out)
  have CU1 := Lib.hid (HCU.out.nx HB1.out)
  have Q1 := Lib.hid (HQ.out.nx HB1.out)
  have hz1 := HB1.out.size
  obtain ⟨zcs, hzcs⟩ : ∃ zcs, zcs = z.cs := ⟨_, rfl⟩
  have nrw : wb ≠ rb := W1.out.b.ne_ R1.out.b (by decide)
  have nwr : wb ≠ r := W1.out.b.ne_ CU1.out (by decide)
  have nrr : r ≠ rb := CU1.out.ne_ R1.out.b (by decide)
  have hQA : z.QA = some ⟨r, 0, none⟩ := HV1.out
  have hQC : z.qc = cap := HV3.out
  have e0 : ∀ x : Ge w1 rb (fun i => i = r) 64 zcs, x.w.cell? ⟨wb, 0, none⟩ = some (.pointer (some ⟨rb, 0, none⟩)) := fun x => (x.blk W1.out.b nrw nwr).cell 0
  have e3 : ∀ x : Ge w1 rb (fun i => i = r) 64 zcs, x.w.cell? ⟨rb, 3, none⟩ = some (.slice (some ⟨r, 0, none⟩) (Z.length + 1) cap) := fun x => by
    rw [x.z.cell, hzcs]
    show some (Value.slice z.QA z.qs.length z.qc) = _
    rw [hQA, hQC, HQS.out, List.length_append]; rfl
  have RBc : Hid (Blk w1 rb 64 zcs) := by show Blk _ _ _ _; rw [hzcs]; exact R1.out.b
  have hne1 : Nonempty (Ge w1 rb (fun i => i = r) 64 zcs) := ⟨⟨w1, Ce.refl _ _ _, RBc.out⟩⟩
  have HD := deleteL w1.drew g w.heap.size r cap cur (Z.map (·.1)) (by rw [List.length_map]; exact hc1z) HBX.out ⟨_, _, Q1.out⟩ (fun x hx => ⟨by
    obtain ⟨p, hp, rfl⟩ := List.mem_map.1 hx
    exact ⟨_, _, (R1.out.q p (by rw [HQS.out]; exact List.mem_append.2 (.inl hp))).1⟩, HGN.out x hx⟩) CU1.out HC0.out (by rw [List.length_map]; exact hZl)
  rw [List.length_map] at HD
  have HD1 := Lib.hid HD
  have NRR := Lib.hid nrr
  have HZC := Lib.hid hzcs
  clear HD nrw nwr nrr hQA hQC hzcs
  refine wp_region_che rb (fun i => i = r) 64 zcs 15 (by kernel_rfl) (by kernel_rfl) (by kernel_rfl) (by kernel_rfl) RBc.out ?_
  iterate 11 (refine che_early (by kernel_rfl) (by kernel_rfl) (by kernel_rfl) ?_; intro K hK; go_big_quiet_op; go_big_quiet_on)
  refine che_one w1.drew w1.drew (.func (.func 59) #[] #[.pointer (some ⟨w.heap.size, 0, none⟩)]) (by kernel_rfl) (by kernel_rfl) (.inl (by first | rfl | (unfold execOp; simp [go_sem]))) (fun h => h) (fun _ h => h) ?_
  go_frame
  refine che_call w1.drew (w1.drew.setCell ⟨r, Z.length, none⟩ (.pointer none)) (.slice (some ⟨r, 0, none⟩) Z.length cap) 58 #[.slice (some ⟨r, 0, none⟩) (Z.length + 1) cap, .func (.func 59) #[] #[.pointer (some ⟨w.heap.size, 0, none⟩)]] (by kernel_rfl) (by kernel_rfl) (by kernel_rfl) HD1.out (fun hC => ⟨hC.os, hC.tape, hC.output, Nat.le_trans hC.size (by simp [World.setCell]), fun i hi h1 h2 => (Below.heap_setCell w1.drew ⟨r, Z.length, none⟩ _ i h2).trans (hC.block i hi h1 h2)⟩) (fun _ hz => hz.far (p := ⟨r, Z.length, none⟩) NRR.out.symm _) ?_
  go_frame
  iterate 2 (refine che_early (by kernel_rfl) (by kernel_rfl) (by kernel_rfl) ?_; intro K hK; go_big_quiet_op; go_big_quiet_on)
  have RB6 : Hid (Blk (w1.drew.setCell ⟨r, Z.length, none⟩ (.pointer none)) rb 64 zcs) := Blk.far (p := ⟨r, Z.length, none⟩) (RBc.out.drew) NRR.out.symm _
  have h1 : (w1.drew.setCell ⟨r, Z.length, none⟩ (.pointer none)).cell? ⟨rb, 3, none⟩ = some (.slice (some ⟨r, 0, none⟩) (Z.length + 1) cap) := by
    rw [RB6.out.cell, HZC.out]
    show some (Value.slice z.QA z.qs.length z.qc) = _
    have a1 : z.QA = some ⟨r, 0, none⟩ := HV1.out
    have a2 : z.qc = cap := HV3.out
    rw [a1, a2, HQS.out, List.length_append]; rfl
  have h2 := RB6.out.frozen 3
  refine che_store (w1.drew.setCell ⟨r, Z.length, none⟩ (.pointer none)) (by kernel_rfl) 61 (.tmp 22) (.tmp 20) rfl rfl 3 (.slice (some ⟨r, 0, none⟩) Z.length cap) rfl rfl (by generalize (w1.drew.setCell ⟨r, Z.length, none⟩ (.pointer none)) = wq at h1 h2 ⊢; simp [go_sem, h1, h2]) ?_
  go_frame
  refine che_nil ?_
  intro wz hC hz
  have KZ0 : ∀ n ts, n ≤ w1.heap.size → (n ≤ B ∨ (64 ∈ ts ∧ 66 ∈ ts)) → KeepT n ts w1 wz := fun n ts hn ht => by
    rw [hz]
    have k1 : KeepT n ts w1 (w1.drew.setCell ⟨r, Z.length, none⟩ (.pointer none)) := KeepT.of_set (w := w1.drew) CU1.out _ (by rcases ht with h | h; exact .inl (by omega); exact .inr h.2) hn
    exact k1.trans (KeepT.of_set RB6.out _ (by rcases ht with h | h; exact .inl (by have := R1.out.lo; omega); exact .inr h.1) (by simpa [World.setCell] using hn))
  have KZ1 := Lib.hid (KZ0 w1.heap.size [64, 66] (Nat.le_refl _) (.inr ⟨by simp, by simp⟩))
  have BZ : Hid (Below B w1 wz) := by
    show Below _ _ _
    rw [hz]
    exact (((Below.refl B w1).drew).setCell hBr _).setCell R1.out.lo _
  have RZ : Hid (IsRv wz B rb { z with qs := Z, QA := some ⟨r, 0, none⟩, qc := cap }) := by
    refine ⟨?_, R1.out.lo, KZ1.out.own R1.out.sv (by decide), ?_, fun p hp => ?_, ?_⟩
    · have h := RB6.out.set_ 3 (.slice (some ⟨r, 0, none⟩) Z.length cap)
      rw [← hz, HZC.out] at h
      exact h
    · have ho := R1.out.qs
      rw [HQS.out] at ho
      rcases ho.2 with ⟨_, h0⟩ | ⟨g2, cap2, cur2, e2, hB2, hh2, a1, a2, a3, a4⟩
      · exact absurd h0 (by simp)
      · injection e2 with e3 _ e5
        have a0 : z.QA = some ⟨r, 0, none⟩ := HV1.out
        rw [a0] at e3
        injection e3 with e3
        injection e3 with e3
        have a6 : z.qc = cap := HV3.out
        rw [a6] at e5
        subst e3 e5
        rw [List.length_append] at a1 a4
        have a4' : cur2.toList.take (Z.length + 1) = (Z ++ [(g, q)]).map fun p => ptr p.1 := by simpa using a4
        refine ⟨by simp, .inr ⟨r, cap, cur2.setIfInBounds Z.length (.pointer none), rfl, hB2, ?_, by have h : Z.length + 1 ≤ cap := a1; show Z.length ≤ cap; omega, a2, by rw [Array.size_setIfInBounds]; exact a3, ?_⟩⟩
        · rw [hz]
          exact Blk.far (p := ⟨rb, 3, none⟩) (Blk.set_ (show Blk w1.drew r _ cur2 from hh2) Z.length _) NRR.out _
        · rw [Array.toList_setIfInBounds, Nat.mul_one, List.take_set_of_le (Nat.le_refl _)]
          have h := congrArg (fun l : List Value => l.take Z.length) a4'
          simp only [List.take_take, List.map_append] at h
          rw [Nat.min_eq_left (Nat.le_succ _)] at h
          rw [h, List.take_append_of_le_length (by simp), List.take_of_length_le (by simp)]
    · obtain ⟨hb, hl⟩ := R1.out.q p (by rw [HQS.out]; exact List.mem_append.2 (.inl hp))
      exact ⟨KZ1.out.blk_ hb (by decide), hl⟩
    · have h := R1.out.nd
      rw [HQS.out, List.map_append, List.nodup_append] at h
      exact h.1
  have WZ := Lib.hid (W1.out.keep KZ1.out (by decide) (by decide) (by decide) (by decide) (by decide))
  have ADZ : Hid (wz.ownsRow Bx 33 1 (.slice AD ads.length kd) ads.length (ads.map (Value.int .u32))) := KZ1.out.own (HB1.out |> fun k => (KeepT.of_below (ts := []) k (Nat.le_refl _)).own HAd.out (by simp)) (by decide)
  have QZ := Lib.hid (KZ1.out.blk_ Q1.out (by decide))
  have XZ : Hid (Blk wz w.heap.size 66 #[.pointer (some ⟨g, 0, none⟩)]) := by
    show Blk _ _ _ _
    rw [hz]
    exact Blk.far (p := ⟨rb, 3, none⟩) (Blk.far (p := ⟨r, Z.length, none⟩) (show Blk w1.drew w.heap.size _ _ from HBX.out) (by show w.heap.size ≠ r; omega) _) (HBX.out.ne_ R1.out.b (by decide)) _
  have hzs : Hid (w1.heap.size ≤ wz.heap.size) := by show _ ≤ _; rw [hz]; simp [World.setCell]
  have KN1 := Lib.hid (KZ0 N [64, 66] (by omega) (.inr ⟨by simp, by simp⟩))
  clear e0 e3 hne1 RB6 h1 h2 hC hz KZ0 RBc HD1 hc1z hcm HCU HC0 HTK HCS CU1
  -- what is found
  obtain ⟨Fv, hFv⟩ : ∃ Fv, Fv = Value.slice FA fs.length fc := ⟨_, rfl⟩
  obtain ⟨wcs, hwcs⟩ : ∃ wcs, wcs = #[ptr rb, .int .i64 now, .int .i64 draw, .slice FA fs.length fc, .slice DA ds.length dc] := ⟨_, rfl⟩
  have own_ne : ∀ {t : TypeId} {i : Nat} {cs : Array Value}, Blk wz i t cs → 39 ≠ t → ¬ (Fv.ownBlock = some i) := fun {t i cs} hb hne => by rw [hFv]; exact own_blk_ne WZ.out.f hb hne
  have ngw : g ≠ wb := QZ.out.ne_ WZ.out.b (by decide)
  have nxw : w.heap.size ≠ wb := XZ.out.ne_ WZ.out.b (by decide)
  have e3 : ∀ x : Ge wz wb (fun i => Fv.ownBlock = some i) 71 wcs, x.w.cell? ⟨wb, 3, none⟩ = some (.slice FA fs.length fc) := fun x => by rw [x.z.cell, hwcs]; rfl
  have ex : ∀ x : Ge wz wb (fun i => Fv.ownBlock = some i) 71 wcs, x.w.cell? ⟨w.heap.size, 0, none⟩ = some (.pointer (some ⟨g, 0, none⟩)) := fun x => (x.blk XZ.out nxw (own_ne XZ.out (by decide))).cell 0
  have eg : ∀ x : Ge wz wb (fun i => Fv.ownBlock = some i) 71 wcs, x.w.cell? ⟨g, 0, none⟩ = some (.string q.first) := fun x => (x.blk QZ.out ngw (own_ne QZ.out (by decide))).cell 0
  have hne1 : Nonempty (Ge wz wb (fun i => Fv.ownBlock = some i) 71 wcs) := ⟨⟨wz, Ce.refl _ _ _, by rw [hwcs]; exact WZ.out.b⟩⟩
  have WBc : Hid (Blk wz wb 71 wcs) := by show Blk _ _ _ _; rw [hwcs]; exact WZ.out.b
  have OFW : Fv.ownBlock ≠ some wb := own_ne WZ.out.b (by decide)
  have HFV := Lib.hid hFv
  obtain ⟨A2, k2, w2, hcl, ho2, hb2⟩ := cloneX wz.drew AD ads.length kd (ads.map (Value.int .u32)) (Reads.of_own ADZ.out.drew) (by intro u hu; obtain ⟨v, _, rfl⟩ := List.mem_map.1 hu; rfl) hads had0.out
  have HCL := Lib.hid hcl
  have HO2 := Lib.hid ho2
  have HB2 : Hid (Below wz.heap.size wz w2) := (rf wz).drew.trans hb2
  clear hcl ho2 hb2
  have HWCS := Lib.hid hwcs
  have hNz : Hid (N ≤ wz.heap.size) := Nat.le_trans hN (Nat.le_trans hz1 hzs.out)
  clear own_ne ngw nxw hFv hwcs
  go_wp2
  refine wp_region_che wb (fun i => Fv.ownBlock = some i) 71 wcs 17 (by kernel_rfl) (by kernel_rfl) (by kernel_rfl) (by kernel_rfl) WBc.out ?_
  iterate 11 (refine che_early (by kernel_rfl) (by kernel_rfl) (by kernel_rfl) ?_; intro K hK; go_big_quiet_op; go_big_quiet_on)
  refine che_call wz.drew w2 (.slice A2 ads.length k2) 18 #[.slice AD ads.length kd] (by kernel_rfl) (by kernel_rfl) (by kernel_rfl) HCL.out (fun hC => (Ce.refl _ _ _).nx HB2.out) (fun _ h => WBc.out.nx HB2.out) ?_
  go_frame
  iterate 1 (refine che_early (by kernel_rfl) (by kernel_rfl) (by kernel_rfl) ?_; intro K hK; go_big_quiet_op; go_big_quiet_on)
  refine che_lit w2 (.cells #[.string q.first, .int .i64 err, .slice A2 ads.length k2] 39) (.slice (some ⟨w2.heap.size, 0, none⟩) 1 1) (by kernel_rfl) (by kernel_rfl) (by first | rfl | (unfold execOp; simp [go_sem])) ?_
  go_frame
  have OW1 : Hid ((w2.alloc (.cells #[.string q.first, .int .i64 err, .slice A2 ads.length k2] 39)).ownsRow N 39 3 Fv fs.length (fs.flatMap Fd.cs)) := by
    show World.ownsRow _ _ _ _ _ _ _
    rw [HFV.out]
    exact ((KeepT.of_below (ts := []) HB2.out (Nat.le_refl _)).own WZ.out.f (by simp)).alloc _
  refine che_app stFd (w2.alloc (.cells #[.string q.first, .int .i64 err, .slice A2 ads.length k2] 39)) (by kernel_rfl) (.tmp 27) (.tmp 36) rfl N Fv fs.length (fs.flatMap Fd.cs) HFV.out.symm OW1.out (fun i h => .inl h) OFW (some ⟨w2.heap.size, 0, none⟩) 1 1 [.string q.first, .int .i64 err, .slice A2 ads.length k2] rfl (reads3 (Blk.new w2 _ _) rfl) (by intro u hu; simp only [List.mem_cons, List.not_mem_nil, or_false] at hu; rcases hu with rfl | rfl | rfl <;> rfl) (by omega) (by omega) (Nat.le_trans hNz.out (Nat.le_trans HB2.out.size (by simp))) (fun v6 w6 own6 gr6 at6 bel6 => ?_)
  obtain ⟨F6, n6, rfl⟩ := own_slice own6
  have O6 := Lib.hid own6
  have G6 := Lib.hid gr6
  have BL6 := Lib.hid bel6
  have WB6 : Hid (Blk w6 wb 71 wcs) := ((WBc.out.nx HB2.out).alloc _).grown gr6 (fun e => OFW e.symm)
  clear own6 gr6 at6 bel6
  go_frame
  iterate 2 (refine che_early (by kernel_rfl) (by kernel_rfl) (by kernel_rfl) ?_; intro K hK; go_big_quiet_op; go_big_quiet_on)
  have h1 : w6.cell? ⟨wb, 3, none⟩ = some (.slice FA fs.length fc) := by rw [WB6.out.cell, HWCS.out]; rfl
  have h2 := WB6.out.frozen 3
  refine che_store w6 (by kernel_rfl) 28 (.tmp 39) (.tmp 37) rfl rfl 3 (.slice F6 (fs.length + 1) n6) rfl rfl (by simp [go_sem, h1, h2]) ?_
  go_frame
  refine che_nil ?_
  intro wy hC hy
  subst hy
  clear e3 ex eg hne1 hC
  have OWs : (w2.alloc (.cells #[.string q.first, .int .i64 err, .slice A2 ads.length k2] 39)).ownsRow N 39 3 (.slice FA fs.length fc) fs.length (fs.flatMap Fd.cs) := by rw [← HFV.out]; exact OW1.out
  have G6s := G6.out
  rw [HFV.out] at G6s
  have kb : Below wz.heap.size wz (w2.alloc (.cells #[.string q.first, .int .i64 err, .slice A2 ads.length k2] 39)) := HB2.out.trans ((al (rf w2) _).mono HB2.out.size)
  have sz1 := kb.size
  have sz2 := G6s.size
  have hNw := hNz.out
  have nwb := WZ.out.lo
  have K1 : ∀ n, n ≤ wz.heap.size → ∀ ts, (n ≤ N ∨ (39 ∈ ts ∧ 71 ∈ ts)) → KeepT n ts wz (w6.setCell ⟨wb, 3, none⟩ (.slice F6 (fs.length + 1) n6)) := fun n hn ts ht => by
    have k1 : KeepT n ts wz (w2.alloc (.cells #[.string q.first, .int .i64 err, .slice A2 ads.length k2] 39)) := KeepT.of_below kb hn
    have k2 : KeepT n ts (w2.alloc (.cells #[.string q.first, .int .i64 err, .slice A2 ads.length k2] 39)) w6 := KeepT.of_row G6s OWs (by rcases ht with h | h; exact .inl h; exact .inr h.1) (by omega)
    have k3 : KeepT n ts w6 (w6.setCell ⟨wb, 3, none⟩ (.slice F6 (fs.length + 1) n6)) := KeepT.of_set WB6.out _ (by rcases ht with h | h; exact .inl (by omega); exact .inr h.2) (by omega)
    exact (k1.trans k2).trans k3
  have KA := K1 wz.heap.size (Nat.le_refl _) [71, 39] (.inr ⟨by simp, by simp⟩)
  have HWd := WZ.out
  have sw2 := HB2.out.size
  have AD6 : (w6.setCell ⟨wb, 3, none⟩ (.slice F6 (fs.length + 1) n6)).ownsRow N 33 1 (.slice A2 ads.length k2) ads.length (ads.map (Value.int .u32)) := by
    have a1 : w2.ownsRow N 33 1 (.slice A2 ads.length k2) ads.length (ads.map (Value.int .u32)) := own_base HO2.out (show N ≤ wz.drew.heap.size from hNw)
    have a2 := (KeepT.of_below (ts := [39, 71]) (al (rf w2) (.cells #[.string q.first, .int .i64 err, .slice A2 ads.length k2] 39)) (Nat.le_refl _)).own a1 (by decide)
    have k2' : KeepT w2.heap.size [39, 71] (w2.alloc (.cells #[.string q.first, .int .i64 err, .slice A2 ads.length k2] 39)) w6 := KeepT.of_row G6s OWs (.inr (by simp)) (by simp)
    have k3' : KeepT w2.heap.size [39, 71] w6 (w6.setCell ⟨wb, 3, none⟩ (.slice F6 (fs.length + 1) n6)) := KeepT.of_set WB6.out _ (.inr (by simp)) (by have := G6s.size; simp at this; omega)
    exact ((KeepT.of_below (ts := [39, 71]) (al (rf w2) (.cells #[.string q.first, .int .i64 err, .slice A2 ads.length k2] 39)) (Nat.le_refl _)).trans (k2'.trans k3')).own a1 (by decide)
  go_wp2
  go_end0
  refine ⟨A2, k2, rfl, F6, n6, some ⟨r, 0, none⟩, cap, RZ.out.keep KA (by decide) (by decide) (by decide) (by decide), ⟨?_, HWd.lo, ?_, KA.own HWd.d (by decide), fun x hx => ?_, fun x hx => KA.own (HWd.dd x hx) (by decide)⟩, ?_, ?_, ?_⟩
  · have h3 := WB6.out.set_ 3 (.slice F6 (fs.length + 1) n6)
    rw [HWCS.out] at h3
    rw [List.length_append]
    exact h3
  · rw [List.length_append, List.flatMap_append]
    exact (KeepT.of_set (i := 3) (ts := [71]) WB6.out (.slice F6 (fs.length + 1) n6) (.inr (by simp)) (Nat.le_refl _)).own O6.out (by decide)
  · rcases List.mem_append.1 hx with hx | hx
    · exact KA.own (HWd.fd x hx) (by decide)
    · obtain rfl := List.mem_singleton.1 hx
      exact AD6
  · exact ((KeepT.of_below HB1.out (Nat.le_refl _)).trans ((KZ1.out.mono (by decide)).less hz1)).trans ((KA.mono (by decide)).less (by have := hzs.out; omega))
  · exact ((KeepT.of_below HB1.out hN).trans KN1.out).trans ((K1 N hNw [] (.inl (Nat.le_refl _))).mono (by decide))
  · exact (((HB1.out.mono (by omega)).trans BZ.out).trans ((kb.mono (by omega)).trans (BL6.out.mono hBN))).setCell (Nat.le_trans hBN nwb) _
end
section
open Go.RowKit Go.Maps

structure GlL (w wr : World) (B N wb rb g : Nat) (z : Rz) (Z : List (Nat × Qn)) (now draw : Int) (fs : List Fd) (FA : Option Addr) (fc : Nat) (ds : List Dg) (DA : Option Addr) (dc : Nat) (AA : Option Addr) (ac : Nat) (L : List (Nat × En)) (D : DataW Unit) (q' : Qn) : Prop where
  R : IsRv wr B rb { z with qs := Z ++ [(g, q')] }
  W : IsWk wr N wb rb now draw fs FA fc ds DA dc
  K : IsKp wr B z.km AA ac L D
  k : KeepT w.heap.size [68, 64] w wr
  n : KeepT N [68, 64] w wr
  b : Below B w wr
  m : MaxL wr
section
variable {w wr w1 : World} {B N wb rb g : Nat} {z : Rz} {Z : List (Nat × Qn)} {now draw : Int} {fs : List Fd} {FA : Option Addr} {fc : Nat} {ds : List Dg} {DA : Option Addr} {dc : Nat} {AA : Option Addr} {ac : Nat} {L : List (Nat × En)} {D : DataW Unit} {q q' q2 : Qn}
theorem upd_last {z : Rz} {Z : List (Nat × Qn)} {g : Nat} {q q' : Qn} (h : z.qs = Z ++ [(g, q)]) (hg : g ∉ Z.map (·.1)) : (z.upd g q').qs = Z ++ [(g, q')] := by
  unfold Rz.upd
  simp only [h, List.map_append, List.map_cons, List.map_nil, if_true]
  congr 1
  conv => rhs; rw [← List.map_id Z]
  apply List.map_congr_left
  intro p hp
  have hne : p.1 ≠ g := fun e => hg (by rw [← e]; exact List.mem_map.2 ⟨p, hp, rfl⟩)
  simp [hne]
theorem GlL.gn (h : GlL w wr B N wb rb g z Z now draw fs FA fc ds DA dc AA ac L D q') : g ∉ Z.map (·.1) := fun hg => by
  have hnd := h.R.nd
  rw [List.map_append, List.nodup_append] at hnd
  exact hnd.2.2 g hg g (by simp) rfl
theorem GlL.blk (h : GlL w wr B N wb rb g z Z now draw fs FA fc ds DA dc AA ac L D q') : Blk wr g 68 q'.cs ∧ B ≤ g := h.R.q (g, q') (by simp)
theorem GlL.nx (h : GlL w wr B N wb rb g z Z now draw fs FA fc ds DA dc AA ac L D q') (hBN : B ≤ N) (hN : N ≤ w.heap.size) (k : Below wr.heap.size wr w1) : GlL w w1 B N wb rb g z Z now draw fs FA fc ds DA dc AA ac L D q' := by
  have hs := h.b.size
  exact ⟨h.R.nx k, h.W.nx k, h.K.nx k, h.k.trans (KeepT.of_below k hs), h.n.trans (KeepT.of_below k (by omega)), h.b.trans (k.mono (by omega)), h.m.nx k⟩
theorem GlL.set (h : GlL w wr B N wb rb g z Z now draw fs FA fc ds DA dc AA ac L D q') (hBN : B ≤ N) (hN : N ≤ w.heap.size)
    (t : T4 wr w1 g rb wb q2.cs ({ z with qs := Z ++ [(g, q')] } : Rz).cs #[ptr rb, .int .i64 now, .int .i64 draw, .slice FA fs.length fc, .slice DA ds.length dc]) : GlL w w1 B N wb rb g z Z now draw fs FA fc ds DA dc AA ac L D q2 := by
  have hs := h.b.size
  have hq := h.blk
  have r := h.R.of4 (s := z.sent) t ⟨q', by simp⟩
  have e : ({ ({ z with qs := Z ++ [(g, q')] } : Rz).upd g q2 with sent := z.sent } : Rz) = { z with qs := Z ++ [(g, q2)] } := by
    have h := upd_last (z := { z with qs := Z ++ [(g, q')] }) (q' := q2) rfl h.gn
    unfold Rz.upd at h ⊢
    simp only at h ⊢
    rw [h]
  rw [e] at r
  have kk := t.keep (n := wr.heap.size) hq.1 h.R.b
  exact ⟨r, h.W.of4 t hq.1 h.R.b, h.K.keep kk (by decide) (by decide) (by decide) (by decide), h.k.trans (kk.less hs), h.n.trans (kk.less (by omega)), h.b.trans (t.below hq.2 h.R.lo), h.m.of4 t hq.1 h.R.b⟩
end
def GkL (w : World) (B N wb rb g : Nat) (z : Rz) (Z : List (Nat × Qn)) (now draw : Int) (fs : List Fd) (FA : Option Addr) (fc : Nat) (ds : List Dg) (DA : Option Addr) (dc : Nat) (L : List (Nat × En)) (q : Qn) (e : Ending) (w' : World) : Prop :=
  e = .returned (.tuple #[]) ∧ KeepT w.heap.size [68, 64, 71, 36, 39, 66] w w' ∧ KeepT N [68, 64, 66] w w' ∧ Below B w w' ∧
  ((∃ err ads nm fo A' k' FA' fc' QA' qc', chase L now (9 - q.follows).toNat q.name q.follows = (some (err, ads), nm, fo) ∧ IsRv w' B rb { z with qs := Z, QA := QA', qc := qc' } ∧ IsWk w' N wb rb now draw (fs ++ [⟨q.first, err, ads, A', k'⟩]) FA' fc' ds DA dc) ∨
   (∃ nm fo A k DA' dc', chase L now (9 - q.follows).toNat q.name q.follows = (none, nm, fo) ∧ IsRv w' B rb { z with sent := z.sent + 1, qs := Z ++ [(g, ({ q with name := nm, follows := fo } : Qn).zero.ask (idV draw z.sent) now)] } ∧ IsWk w' N wb rb now draw fs FA fc (ds ++ [⟨z.port, svAt z 0, askB (idV draw z.sent) nm, A, k⟩]) DA' dc'))
theorem gk_endL {w wr w' : World} {B N wb rb g : Nat} {z : Rz} {Z : List (Nat × Qn)} {now draw : Int} {fs : List Fd} {FA : Option Addr} {fc : Nat} {ds : List Dg} {DA : Option Addr} {dc : Nat} {AA : Option Addr} {ac : Nat} {L : List (Nat × En)} {D : DataW Unit} {q q' : Qn} {e : Ending} {err : Int} {ads : List Int} {A' : Option Addr} {k' : Nat} {nm : ByteArray} {fo : Int}
    (h : GlL w wr B N wb rb g z Z now draw fs FA fc ds DA dc AA ac L D q') (hN : N ≤ w.heap.size) (hf : q'.first = q.first) (hc : chase L now (9 - q.follows).toNat q.name q.follows = (some (err, ads), nm, fo))
    (hE : EndL wr B N wb rb { z with qs := Z ++ [(g, q')] } Z now draw fs ds DA dc ⟨q'.first, err, ads, A', k'⟩ e w') : GkL w B N wb rb g z Z now draw fs FA fc ds DA dc L q e w' := by
  obtain ⟨he, FA', fc', QA', qc', r, wk, k1, k2, b⟩ := hE
  rw [hf] at wk
  have hs := h.b.size
  exact ⟨he, (h.k.mono (by decide)).trans ((k1.mono (by decide)).less hs), (h.n.mono (by decide)).trans (k2.mono (by decide)), h.b.trans b, .inl ⟨err, ads, nm, fo, A', k', FA', fc', QA', qc', hc, r, wk⟩⟩
def foAtL (w : World) (g : Nat) : Nat := match w.cell? ⟨g, 2, none⟩ with
  | some (.int _ v) => (9 - v).toNat
  | _ => 0
theorem GlL.fo {w wr : World} {B N wb rb g : Nat} {z : Rz} {Z : List (Nat × Qn)} {now draw : Int} {fs : List Fd} {FA : Option Addr} {fc : Nat} {ds : List Dg} {DA : Option Addr} {dc : Nat} {AA : Option Addr} {ac : Nat} {L : List (Nat × En)} {D : DataW Unit} {q' : Qn} (h : GlL w wr B N wb rb g z Z now draw fs FA fc ds DA dc AA ac L D q') : foAtL wr g = (9 - q'.follows).toNat := by
  have h2 : wr.cell? ⟨g, 2, none⟩ = some (.int .i64 q'.follows) := h.blk.1.cell 2
  unfold foAtL
  rw [h2]
set_option maxRecDepth 100000 in
set_option maxHeartbeats 1600000 in
theorem goesKL (w : World) (B N wb rb g : Nat) (z : Rz) (Z : List (Nat × Qn)) (now draw : Int) (fs : List Fd) (FA : Option Addr) (fc : Nat) (ds : List Dg) (DA : Option Addr) (dc : Nat) (AA : Option Addr) (ac : Nat) (L : List (Nat × En)) (D : DataW Unit) (q : Qn)
    (hR : IsRv w B rb z) (hW : IsWk w N wb rb now draw fs FA fc ds DA dc) (hqs : z.qs = Z ++ [(g, q)]) (hZl : Z.length ≤ 1000) (hK : IsKp w B z.km AA ac L D) (hm : MaxL w) (f0 : 0 ≤ q.follows) (f1 : q.follows ≤ 8)
    (hcn : ∀ p ∈ L, p.2.leads = true → isN p.2.cname.data.toList = true ∧ p.2.cname.size ≤ 3000) (had : ∀ p ∈ L, p.2.ad.length ≤ 1000000)
    (hn : isN q.name.data.toList = true) (hns : q.name.size ≤ 3000) (s1 : 1 ≤ z.sv.length) (hsv : z.sv.length ≤ 3) (n0 : 0 ≤ now) (n1 : now ≤ 1152921504606846976) (e0 : 0 ≤ z.sent) (e1 : z.sent ≤ 1152921504606846976)
    (hfs : fs.length ≤ 1000000) (hds : ds.length ≤ 1000000) (hBN : B ≤ N) (hN : N ≤ w.heap.size) :
    Calls Tryd.prog 20 #[.pointer (some ⟨wb, 0, none⟩), .pointer (some ⟨g, 0, none⟩)] w (GkL w B N wb rb g z Z now draw fs FA fc ds DA dc L q) := by
  have ez : ({ z with qs := Z ++ [(g, q)] } : Rz) = z := by cases z; simp only at hqs; rw [hqs]
  have G0 : Hid (GlL w w B N wb rb g z Z now draw fs FA fc ds DA dc AA ac L D q) := ⟨by rw [ez]; exact hR, hW, hK, KeepT.refl, KeepT.refl, Below.refl _ _, hm⟩
  have HCN := Lib.hid hcn
  have HAD := Lib.hid had
  clear hR hW hK hm hqs ez hcn had
  go_enter Tryd.func20, Tryd.ntmps20
  go_wp2
  go_step3
  go_wp2
  go_step3
  go_wp2
  go_loopw [4] (fun v ws => ∃ q', Hid (GlL w ws B N wb rb g z Z now draw fs FA fc ds DA dc AA ac L D q' ∧ q' = { q with name := q'.name, follows := q'.follows } ∧ 0 ≤ q'.follows ∧ q'.follows ≤ 8 ∧ isN q'.name.data.toList = true ∧ q'.name.size ≤ 3000 ∧ chase L now (9 - q.follows).toNat q.name q.follows = chase L now (9 - q'.follows).toNat q'.name q'.follows)) (fun _ ws => foAtL ws g)
  case atStart => exact ⟨q, G0.out, rfl, f0, f1, hn, hns, rfl⟩
  case round =>
    obtain ⟨q', HL⟩ := hrel
    have GL := Lib.hid HL.out.1
    have HEQ := Lib.hid HL.out.2.1
    have HNM := Lib.hid HL.out.2.2.2.2.1
    have HCH := Lib.hid HL.out.2.2.2.2.2.2
    have g0 : 0 ≤ q'.follows := HL.out.2.2.1
    have g1 : q'.follows ≤ 8 := HL.out.2.2.2.1
    have g2 : q'.name.size ≤ 3000 := HL.out.2.2.2.2.2.1
    have q1 : wr.cell? ⟨g, 1, none⟩ = some (.string q'.name) := GL.out.blk.1.cell 1
    obtain ⟨hin, hcall⟩ := haveK wr wb rb B z.km AA ac L D q'.name (by omega) now _ _ GL.out.W.b rfl rfl GL.out.R.b rfl GL.out.K
    have HIN := Lib.hid hin
    have HCALL := Lib.hid hcall
    obtain ⟨o, ho⟩ : ∃ o, o = lookL L now q'.name := ⟨_, rfl⟩
    rw [← ho] at hcall
    have HCALL := Lib.hid hcall
    have HO := Lib.hid ho
    clear hin hcall ho HL
    go_wp2_with fail
    refine HCALL.out.mono ?_
    rintro e w1 ⟨rfl, b1⟩
    have G1 := Lib.hid (GL.out.nx hBN hN b1)
    have hz1 := G1.out.b.size
    clear q1 b1 HCALL
    cases o with
    | none =>
      unfold entP
      have CE := Lib.hid (HCH.out.trans (chase_none HO.out.symm))
      have x0 : w1.cell? ⟨wb, 0, none⟩ = some (.pointer (some ⟨rb, 0, none⟩)) := G1.out.W.b.cell 0
      have r3 : w1.cell? ⟨rb, 3, none⟩ = some (.slice z.QA (Z.length + 1) z.qc) := by
        have h := G1.out.R.b.cell 3
        simpa [Rz.cs] using h
      have HC := containsC w1 z.QA z.qc (Z.map (·.1) ++ [g]) g (by rw [show Z.map (·.1) ++ [g] = (Z ++ [(g, q')]).map (·.1) by simp, List.length_map, ← map_ptr]; exact Reads.of_own G1.out.R.qs) (by simp; omega) ⟨_, _, G1.out.blk.1⟩ (by have := G1.out.R.isB; simpa using this)
      rw [show (Z.map (·.1) ++ [g]).contains g = true from by simp, show (Z.map (·.1) ++ [g]).length = Z.length + 1 by simp] at HC
      have HC1 := Lib.hid HC
      have q5 : w1.cell? ⟨g, 5, none⟩ = some (.int .i64 q'.asked) := G1.out.blk.1.cell 5
      have q4 : w1.cell? ⟨g, 4, none⟩ = some (.int .i64 q'.server) := G1.out.blk.1.cell 4
      have f5 := G1.out.blk.1.frozen 5
      have f4 := G1.out.blk.1.frozen 4
      clear HC
      go_wp2_with fail
      refine HC1.out.mono ?_
      rintro e w2 ⟨rfl, hw2⟩
      have hw3 := hw2.symm
      subst hw3
      clear hw2 HC1
      go_wp2_with fail
      have T0 := Lib.hid (T4.start G1.out.blk.1 G1.out.R.b G1.out.W.b)
      have T1 : Hid (T4 w1 ((w1.setCell ⟨g, 5, none⟩ (.int .i64 0)).setCell ⟨g, 4, none⟩ (.int .i64 0)) g rb wb q'.zero.cs ({ z with qs := Z ++ [(g, q')] } : Rz).cs #[ptr rb, .int .i64 now, .int .i64 draw, .slice FA fs.length fc, .slice DA ds.length dc]) := (T0.out.setG 5 _).setG 4 _
      generalize (w1.setCell ⟨g, 5, none⟩ (.int .i64 0)).setCell ⟨g, 4, none⟩ (.int .i64 0) = w7 at T1 ⊢
      have G7 := Lib.hid (G1.out.set hBN hN T1.out)
      have hz7 := G7.out.b.size
      refine (asksC w7 B N wb rb g { z with qs := Z ++ [(g, q'.zero)] } now draw fs FA fc ds DA dc q'.zero G7.out.R G7.out.W (by simp) G7.out.m HNM.out g2 (Int.le_refl 0) (by show (0 : Int) < z.sv.length; omega) hsv n0 n1 (Int.le_refl 0) (by show (0 : Int) ≤ 1000; omega) e0 e1 hds hBN (by omega)).mono ?_
      rintro e w8 ⟨rfl, A8, k8, D8, d8, R8, W8, K8, N8, B8⟩
      have e8 : ({ ({ z with qs := Z ++ [(g, q'.zero)] } : Rz).upd g (q'.zero.ask (idV draw z.sent) now) with sent := z.sent + 1 } : Rz) = { z with sent := z.sent + 1, qs := Z ++ [(g, q'.zero.ask (idV draw z.sent) now)] } := by
        have h := upd_last (z := { z with qs := Z ++ [(g, q'.zero)] }) (q' := q'.zero.ask (idV draw z.sent) now) rfl G7.out.gn
        unfold Rz.upd at h ⊢
        simp only at h ⊢
        rw [h]
      have R9 := R8
      rw [e8] at R9
      have HP : Hid (GkL w B N wb rb g z Z now draw fs FA fc ds DA dc L q (.returned (.tuple #[])) w8) := by
        refine ⟨rfl, (G7.out.k.mono (by decide)).trans ((K8.mono (by decide)).less hz7), (G7.out.n.mono (by decide)).trans (N8.mono (by decide)), G7.out.b.trans B8, .inr ⟨q'.name, q'.follows, A8, k8, D8, d8, CE.out, ?_, W8⟩⟩
        rw [← HEQ.out]
        exact R9
      clear R8 W8 K8 N8 B8 R9 e8 q4 q5 f4 f5
      go_wp2
      go_end0
      exact HP.out
    | some p =>
      unfold entP
      have hp := HIN.out p HO.out.symm
      have HP := Lib.hid hp
      have ft : (9 - q'.follows).toNat = (8 - q'.follows).toNat + 1 := by omega
      have hfr : q'.first = q.first := by have := congrArg Qn.first HEQ.out; exact this
      have EB := Lib.hid (G1.out.K.e p hp).1
      have l2 : w1.cell? ⟨p.1, 2, none⟩ = some (.bool p.2.leads) := EB.out.cell 2
      have l3 : w1.cell? ⟨p.1, 3, none⟩ = some (.slice p.2.A p.2.ad.length p.2.k) := EB.out.cell 3
      cases hl : p.2.leads with
      | false =>
        rw [hl] at l2
        have CE : Hid (chase L now (9 - q.follows).toNat q.name q.follows = (some (0, p.2.ad), q'.name, q'.follows)) := HCH.out.trans (by rw [ft]; exact chase_end HO.out.symm hl)
        have HE := Lib.hid (endsKL w1 B N wb rb g { z with qs := Z ++ [(g, q')] } now draw fs FA fc ds DA dc q' 0 B p.2.A p.2.ad p.2.k Z G1.out.R G1.out.W rfl hZl (G1.out.K.ad p hp) (HAD.out p hp) hfs hBN (by omega))
        clear hp
        go_wp2_with fail
        refine HE.out.mono ?_
        rintro e w2 ⟨A', k', h2⟩
        have H2 := Lib.hid (gk_endL G1.out hN hfr CE.out h2)
        obtain ⟨rfl, _⟩ := h2
        go_wp2
        go_end0
        exact H2.out
      | true =>
        rw [hl] at l2
        have q2c : w1.cell? ⟨g, 2, none⟩ = some (.int .i64 q'.follows) := G1.out.blk.1.cell 2
        have fr2 := G1.out.blk.1.frozen 2
        have c1' : w1.cell? ⟨p.1, 1, none⟩ = some (.string p.2.cname) := EB.out.cell 1
        have ngp : p.1 ≠ g := EB.out.ne_ G1.out.blk.1 (by decide)
        have T0 := Lib.hid (T4.start G1.out.blk.1 G1.out.R.b G1.out.W.b)
        have T1 : Hid (T4 w1 (w1.setCell ⟨g, 2, none⟩ (.int .i64 (q'.follows + 1))) g rb wb ({ q' with follows := q'.follows + 1 } : Qn).cs ({ z with qs := Z ++ [(g, q')] } : Rz).cs #[ptr rb, .int .i64 now, .int .i64 draw, .slice FA fs.length fc, .slice DA ds.length dc]) := T0.out.setG 2 _
        by_cases hf : 8 < q'.follows + 1
        · have CE : Hid (chase L now (9 - q.follows).toNat q.name q.follows = (some (10, []), q'.name, q'.follows + 1)) := HCH.out.trans (by rw [ft]; exact chase_over HO.out.symm hl hf)
          go_wp2_with fail
          generalize w1.setCell ⟨g, 2, none⟩ (.int .i64 (q'.follows + 1)) = w7 at T1 ⊢
          have G7 := Lib.hid (G1.out.set hBN hN T1.out)
          have hz7 := G7.out.b.size
          refine (endsKL w7 B N wb rb g { z with qs := Z ++ [(g, { q' with follows := q'.follows + 1 })] } now draw fs FA fc ds DA dc { q' with follows := q'.follows + 1 } 10 B none [] 0 Z G7.out.R G7.out.W rfl hZl (World.ownsRow_nil _ _ _ _) (by simp) hfs hBN (by omega)).mono ?_
          rintro e w2 ⟨A', k', h2⟩
          have H2 := Lib.hid (gk_endL G7.out hN hfr CE.out h2)
          obtain ⟨rfl, _⟩ := h2
          go_wp2
          go_end0
          exact H2.out
        · have CE : Hid (chase L now (9 - q.follows).toNat q.name q.follows = chase L now (8 - q'.follows).toNat p.2.cname (q'.follows + 1)) := HCH.out.trans (by rw [ft]; exact chase_on HO.out.symm hl hf)
          have q1c : w1.cell? ⟨g, 1, none⟩ = some (.string q'.name) := G1.out.blk.1.cell 1
          have fr1 := G1.out.blk.1.frozen 1
          have CN := Lib.hid (HCN.out p hp hl)
          have T2 : Hid (T4 w1 ((w1.setCell ⟨g, 2, none⟩ (.int .i64 (q'.follows + 1))).setCell ⟨g, 1, none⟩ (.string p.2.cname)) g rb wb ({ q' with follows := q'.follows + 1, name := p.2.cname } : Qn).cs ({ z with qs := Z ++ [(g, q')] } : Rz).cs #[ptr rb, .int .i64 now, .int .i64 draw, .slice FA fs.length fc, .slice DA ds.length dc]) := T1.out.setG 1 _
          go_wp2
          go_roundw
          all_goals generalize (w1.setCell ⟨g, 2, none⟩ (.int .i64 (q'.follows + 1))).setCell ⟨g, 1, none⟩ (.string p.2.cname) = w7 at T2 ⊢
          all_goals have G7 := Lib.hid (G1.out.set hBN hN T2.out)
          case rel => exact ⟨_, ⟨G7.out, by have := HEQ.out; rw [this], by show 0 ≤ q'.follows + 1; omega, by show q'.follows + 1 ≤ 8; omega, CN.out.1, CN.out.2, by rw [CE.out]; show _ = chase L now (9 - (q'.follows + 1)).toNat _ _; rw [show 9 - (q'.follows + 1) = 8 - q'.follows by omega]⟩⟩
          case measure => rw [G7.out.fo, GL.out.fo]; show (9 - (q'.follows + 1)).toNat < _; omega
end
section
open Go.RowKit Go.Maps

set_option maxRecDepth 100000 in
set_option maxHeartbeats 1600000 in
theorem ofCL (w : World) (B rb g : Nat) (z : Rz) (Z : List (Nat × Qn)) (q : Qn) (M : Ms) (fr frp to_ top : Int) (DA : Option Addr) (dl dk : Nat) (x : Rc) (hR : IsRv w B rb z) (hqs : z.qs = Z ++ [(g, q)]) (hZl : Z.length ≤ 1000) (hot : ∀ p ∈ Z, p.2.id ≠ M.id) (hM : IsM w M) (hq1 : M.q = [x]) (ht : x.t = 1) (hc : x.c = 1) (hid : q.id = M.id)
    (s0 : 0 ≤ q.server) (s1 : q.server < z.sv.length) (hfr : fr = svAt z q.server) (hnm : (low q.name == low x.nm) = true) (n1 : q.name.size ≤ 3000) (n2 : x.nm.size ≤ 3000) :
    Calls Tryd.prog 41 #[.pointer (some ⟨rb, 0, none⟩), .agg #[.int .u32 fr, .int .i64 frp, .int .u32 to_, .int .i64 top, .slice DA dl dk], .agg #[.int .i64 M.id, .int .i64 M.fl, .slice M.Q 1 M.n, .slice M.A M.a.length M.m]] w fun e w' => e = .returned (.pointer (some ⟨g, 0, none⟩)) ∧ Below w.heap.size w w' := by
  have hrow := hM.q
  rw [hq1] at hrow
  obtain ⟨ad, hQ, _, hcell⟩ := rows_rc (i := 0) (r := x) hrow rfl
  rw [Nat.zero_mul] at hcell
  have hz : (ad.add 0) = ad := by simp [Addr.add]
  rw [hz] at hcell
  have c0 : w.cell? ad = some (.string x.nm) := by have h := hcell 0 _ rfl; rwa [hz] at h
  have c1 : w.cell? ⟨ad.block, ad.off + 1, none⟩ = some (.int .i64 1) := by rw [← ht]; exact hcell 1 _ rfl
  have c2 : w.cell? ⟨ad.block, ad.off + 2, none⟩ = some (.int .i64 1) := by rw [← hc]; exact hcell 2 _ rfl
  have c3 : w.cell? ⟨ad.block, ad.off + 3, none⟩ = some (.int .i64 x.u) := hcell 3 _ rfl
  have c4 : w.cell? ⟨ad.block, ad.off + 4, none⟩ = some (.slice x.A x.da.length x.k) := hcell 4 _ rfl
  have hmem : (g, q) ∈ z.qs := by rw [hqs]; simp
  have hown := hR.qs
  rw [hqs] at hown
  obtain ⟨r, cap, hv, _, hrl, _, _, cur, hcur, _, htk⟩ := own_form hown (by simp)
  injection hv with hv1 _ hv3
  have hQA : z.QA = some ⟨r, 0, none⟩ := hv1
  have r3 : w.cell? ⟨rb, 3, none⟩ = some (.slice (some ⟨r, 0, none⟩) (Z.length + 1) cap) := by
    have h := hR.b.cell 3
    simp only [Rz.cs, List.getElem?_toArray, List.getElem?_cons_zero, List.getElem?_cons_succ] at h
    have hQC : z.qc = cap := hv3
    rw [h, hQA, hQC, hqs, List.length_append]; rfl
  have p0 : ∀ (k x : Nat), (Z.map (·.1) ++ [g])[k]? = some x → w.cell? ⟨r, k, none⟩ = some (.pointer (some ⟨x, 0, none⟩)) := fun k x hx => (hcur.cell k).trans (last_cur (n := (Z ++ [(g, q)]).length) rfl htk k x hx)
  have qo : ∀ p ∈ Z, w.cell? ⟨p.1, 3, none⟩ = some (.int .i64 p.2.id) ∧ p.1 < w.heap.size := fun p hp => by
    have h := (hR.q p (by rw [hqs]; exact List.mem_append.2 (.inl hp))).1
    exact ⟨h.cell 3, h.lt⟩
  have qb := (hR.q _ hmem).1
  have q3 : w.cell? ⟨g, 3, none⟩ = some (.int .i64 M.id) := by rw [← hid]; exact qb.cell 3
  obtain ⟨sn, hsn⟩ : ∃ n : Nat, q.server = n := ⟨q.server.toNat, by omega⟩
  have q4 : w.cell? ⟨g, 4, none⟩ = some (.int .i64 sn) := by rw [← hsn]; exact qb.cell 4
  have q1 : w.cell? ⟨g, 1, none⟩ = some (.string q.name) := qb.cell 1
  have hsl : sn < z.sv.length := by omega
  obtain ⟨sad, u, hSA, hsab, hu, hsc⟩ := (Reads.of_own hR.sv).at_ hsl
  obtain ⟨v, hvv⟩ : ∃ v, z.sv[sn]? = some v := ⟨_, List.getElem?_eq_getElem hsl⟩
  have hus : u = .int .u32 v := by rw [List.getElem?_map, hvv] at hu; exact (Option.some.inj hu).symm
  subst hus
  have hfv : fr = v := by rw [hfr]; unfold svAt; rw [hsn, Int.toNat_natCast, hvv]; rfl
  subst hfv
  have r0 : w.cell? ⟨rb, 0, none⟩ = some (.slice (some sad) z.sv.length z.sc) := by rw [← hSA]; exact hR.b.cell 0
  have hrb := hR.b.lt
  have hgl := qb.lt
  have k0 : (0 : Int) ≤ sn := by omega
  have k1 : (sn : Int) < z.sv.length := by omega
  have D0 := Blk.new w 36 #[.int .u32 fr, .int .i64 frp, .int .u32 to_, .int .i64 top, .slice DA dl dk]
  have b1 : Below w.heap.size w (w.alloc (.cells #[.int .u32 fr, .int .i64 frp, .int .u32 to_, .int .i64 top, .slice DA dl dk] 36)) := al (rf w) _
  have hs1 : (w.alloc (.cells #[.int .u32 fr, .int .i64 frp, .int .u32 to_, .int .i64 top, .slice DA dl dk] 36)).heap.size = w.heap.size + 1 := by simp
  have b2 : Below w.heap.size w ((w.alloc (.cells #[.int .u32 fr, .int .i64 frp, .int .u32 to_, .int .i64 top, .slice DA dl dk] 36)).alloc (.cells #[.int .i64 M.id, .int .i64 M.fl, .slice M.Q 1 M.n, .slice M.A M.a.length M.m] 43)) := al b1 _
  have M0 := blk_at (w.alloc (.cells #[.int .u32 fr, .int .i64 frp, .int .u32 to_, .int .i64 top, .slice DA dl dk] 36)) 43 #[.int .i64 M.id, .int .i64 M.fl, .slice M.Q 1 M.n, .slice M.A M.a.length M.m] hs1.symm
  have D1 := Lib.hid (D0.alloc (.cells #[.int .i64 M.id, .int .i64 M.fl, .slice M.Q 1 M.n, .slice M.A M.a.length M.m] 43))
  have M1 := Lib.hid M0
  have B2 := Lib.hid b2
  have HR := Lib.hid hR
  have HQS := Lib.hid hqs
  have HC := Lib.hid hcell
  have HNM := Lib.hid hnm
  have HFR := Lib.hid hfr
  have HID := Lib.hid hid
  have HT := Lib.hid ht
  have HCC := Lib.hid hc
  have ee1 : (M.id == M.id) = true := by simp
  have ee2 : ((fr : Int) == fr) = true := by simp
  clear hR hqs hM hq1 hrow hcell hz D0 b1 hs1 b2 M0 hnm hfr hid ht hc hown hv1 hv3 hQA hcur htk qb hsn hsl hu hvv hmem hSA s0 s1
  rw [hQ]
  rw [hQ] at D1 M1 B2
  have B3 : Hid (Below w.heap.size w (((w.alloc (.cells #[.int .u32 fr, .int .i64 frp, .int .u32 to_, .int .i64 top, .slice DA dl dk] 36)).alloc (.cells #[.int .i64 M.id, .int .i64 M.fl, .slice (some ad) 1 M.n, .slice M.A M.a.length M.m] 43)).alloc (.cells #[.string x.nm, .int .i64 1, .int .i64 1, .int .i64 x.u, .slice x.A x.da.length x.k] 48))) := al B2.out _
  have old : ∀ p : Addr, p.block < w.heap.size → ((((w.alloc (.cells #[.int .u32 fr, .int .i64 frp, .int .u32 to_, .int .i64 top, .slice DA dl dk] 36)).alloc (.cells #[.int .i64 M.id, .int .i64 M.fl, .slice (some ad) 1 M.n, .slice M.A M.a.length M.m] 43)).alloc (.cells #[.string x.nm, .int .i64 1, .int .i64 1, .int .i64 x.u, .slice x.A x.da.length x.k] 48))).cell? p = w.cell? p := fun p hp => B3.out.cell hp
  have R3 := (old ⟨rb, 3, none⟩ hrb).trans r3
  have R0 := (old ⟨rb, 0, none⟩ hrb).trans r0
  have P0 := fun (k x : Nat) (h : (Z.map (·.1) ++ [g])[k]? = some x) => (old ⟨r, k, none⟩ hrl).trans (p0 k x h)
  have QO := fun (p : Nat × Qn) (h : p ∈ Z) => (old ⟨p.1, 3, none⟩ (qo p h).2).trans (qo p h).1
  have Q1 := (old ⟨g, 1, none⟩ hgl).trans q1
  have Q3 := (old ⟨g, 3, none⟩ hgl).trans q3
  have Q4 := (old ⟨g, 4, none⟩ hgl).trans q4
  have SC := (old (sad.add sn) (by rw [block_of_add]; exact hsab)).trans hsc
  have hs2 : ((w.alloc (.cells #[.int .u32 fr, .int .i64 frp, .int .u32 to_, .int .i64 top, .slice DA dl dk] 36)).alloc (.cells #[.int .i64 M.id, .int .i64 M.fl, .slice (some ad) 1 M.n, .slice M.A M.a.length M.m] 43)).heap.size = w.heap.size + 1 + 1 := by simp
  have X1 := blk_at ((w.alloc (.cells #[.int .u32 fr, .int .i64 frp, .int .u32 to_, .int .i64 top, .slice DA dl dk] 36)).alloc (.cells #[.int .i64 M.id, .int .i64 M.fl, .slice (some ad) 1 M.n, .slice M.A M.a.length M.m] 43)) 48 #[.string x.nm, .int .i64 1, .int .i64 1, .int .i64 x.u, .slice x.A x.da.length x.k] hs2.symm
  have D3 := (D1.out.alloc (.cells #[.string x.nm, .int .i64 1, .int .i64 1, .int .i64 x.u, .slice x.A x.da.length x.k] 48)).cell 0
  have M3 := (M1.out.alloc (.cells #[.string x.nm, .int .i64 1, .int .i64 1, .int .i64 x.u, .slice x.A x.da.length x.k] 48)).cell 0
  have X3 := X1.cell 0
  simp only [List.getElem?_toArray, List.getElem?_cons_zero] at D3 M3 X3
  clear old hs2 X1
  go_enter Tryd.func41, Tryd.ntmps41
  go_wp2
  clear c0 c1 c2 c3 c4 r3 r0 p0 qo q1 q3 q4 hsc
  generalize (((w.alloc (.cells #[.int .u32 fr, .int .i64 frp, .int .u32 to_, .int .i64 top, .slice DA dl dk] 36)).alloc (.cells #[.int .i64 M.id, .int .i64 M.fl, .slice (some ad) 1 M.n, .slice M.A M.a.length M.m] 43)).alloc (.cells #[.string x.nm, .int .i64 1, .int .i64 1, .int .i64 x.u, .slice x.A x.da.length x.k] 48)) = w9 at B3 R3 R0 P0 QO Q1 Q3 Q4 SC D3 M3 X3 ⊢
  have HP0 := Lib.hid P0
  have HQO := Lib.hid QO
  have HOT := Lib.hid hot
  obtain ⟨wz, hwz⟩ : ∃ wz, wz = w9 := ⟨_, rfl⟩
  have HWZ := Lib.hid hwz
  clear hwz D1 M1 B2 P0 QO hot
  go_loopw [27] (fun kv ws => ∃ k n : Nat, kv = .int .i64 k ∧ k ≤ Z.length ∧ Hid (ws = wz.drewN n)) (fun kv _ => Z.length - (intOf kv).toNat)
  case atStart => exact ⟨0, 0, rfl, Nat.zero_le _, HWZ.out.symm⟩
  case round =>
    obtain ⟨k, n, rfl, hk, HW⟩ := hrel
    have ew : wr = w9.drewN n := by rw [HW.out, HWZ.out]
    have EW := Lib.hid ew
    have P0 : ∀ (k x : Nat), (Z.map (·.1) ++ [g])[k]? = some x → wr.cell? ⟨r, k, none⟩ = some (.pointer (some ⟨x, 0, none⟩)) := by rw [ew]; exact HP0.out
    have QO : ∀ p ∈ Z, wr.cell? ⟨p.1, 3, none⟩ = some (.int .i64 p.2.id) := by rw [ew]; exact HQO.out
    replace R3 := (show (w9.drewN n).cell? _ = _ from R3)
    replace R0 := (show (w9.drewN n).cell? _ = _ from R0)
    replace Q1 := (show (w9.drewN n).cell? _ = _ from Q1)
    replace Q3 := (show (w9.drewN n).cell? _ = _ from Q3)
    replace Q4 := (show (w9.drewN n).cell? _ = _ from Q4)
    replace SC := (show (w9.drewN n).cell? _ = _ from SC)
    replace D3 := (show (w9.drewN n).cell? _ = _ from D3)
    replace M3 := (show (w9.drewN n).cell? _ = _ from M3)
    replace X3 := (show (w9.drewN n).cell? _ = _ from X3)
    rw [← ew] at R3 R0 Q1 Q3 Q4 SC D3 M3 X3
    clear ew
    have kk0 : (0 : Int) ≤ k := by omega
    have kk1 : (k : Int) < (Z.length : Int) + 1 := by omega
    by_cases hlt : k < Z.length
    · obtain ⟨p, hp⟩ : ∃ p, Z[k]? = some p := ⟨_, List.getElem?_eq_getElem hlt⟩
      have hpm := List.mem_of_getElem? hp
      have p0 := P0 k p.1 (by rw [List.getElem?_append_left (by rw [List.length_map]; exact hlt), List.getElem?_map, hp]; rfl)
      have q3 := QO p hpm
      have ee1 : (p.2.id == M.id) = false := by simpa using HOT.out p hpm
      clear P0 QO hp hpm Q3
      go_wp2
      go_quiet (fail)
      go_wp2
      go_roundw
      case rel => exact ⟨k + 1, n + nq, by go_num, by omega, by show _ = _; rw [HW.out, World.drewN_drewN]⟩
      case measure => simp [intOf]; omega
    · obtain rfl : k = Z.length := by omega
      have p0 := P0 Z.length g (by rw [List.getElem?_append_right (by simp)]; simp)
      clear P0 QO
      have HSA : Hid (∀ w : World, Calls Tryd.prog 14 #[.string q.name, .string x.nm] w fun e w' => e = .returned (.bool true) ∧ ∃ n, w' = w.drewN n) := fun w => by
        have h := sameC q.name x.nm w (by omega) (by omega)
        rw [HNM.out] at h
        exact h
      go_wp2
      go_quiet ((go_at_call 14; exact Calls.quiet_of (HSA.out _)))
      go_wp2
      go_ret
      exact ⟨rfl, by rw [EW.out]; exact dn (dn B3.out _) _⟩
end
section
open Go.RowKit Go.Maps

def HearL (w : World) (B rb : Nat) (z : Rz) (Z : List (Nat × Qn)) (q : Qn) (now draw : Int) (T : List Pe) (e : Ending) (w' : World) : Prop :=
  ∃ (AA' : Option Addr) (ac' : Nat) (L' : List (Nat × En)) (D' : DataW Unit) (err : Int) (ads : List Int) (nm : ByteArray) (fo : Int) (A' : Option Addr) (k' : Nat) (QA' : Option Addr) (qc' : Nat) (FA : Option Addr) (fc : Nat),
    e = .returned (.tuple #[.slice FA 1 fc, .slice none 0 0]) ∧ (L'.map fun p => p.2.pl) = T ∧ chase L' now (9 - q.follows).toNat q.name q.follows = (some (err, ads), nm, fo) ∧
    IsRv w' B rb { z with age := .slice AA' L'.length ac', qs := Z, QA := QA', qc := qc' } ∧ IsKp w' B z.km AA' ac' L' D' ∧
    w'.ownsRow w.heap.size 39 3 (.slice FA 1 fc) 1 (Fd.cs ⟨q.first, err, ads, A', k'⟩) ∧ w'.ownsRow w.heap.size 33 1 (.slice A' ads.length k') ads.length (ads.map (Value.int .u32)) ∧
    KeepT w.heap.size [68, 64, 66, 60, 74] w w' ∧ Below B w w'
set_option maxRecDepth 100000 in
set_option maxHeartbeats 3200000 in
theorem hearKeepL (w : World) (B rb g : Nat) (z : Rz) (Z : List (Nat × Qn)) (q : Qn) (M : Ms) (x : Rc) (fr to_ now draw code : Int) (l : List UInt8) (ga c : Nat) (AA : Option Addr) (ac : Nat) (L : List (Nat × En)) (Dm : DataW Unit) (T : List Pe) (hR : IsRv w B rb z) (hqs : z.qs = Z ++ [(g, q)]) (hZl : Z.length ≤ 1000) (hot : ∀ p ∈ Z, p.2.id ≠ M.id) (hm : MaxL w) (hB : B ≤ w.heap.size) (hB0 : 0 < B)
    (hz : wrongI M = 0) (hMd : ∀ r ∈ M.a, r.da.length ≤ 3000) (hMn : ∀ r ∈ M.a, r.nm.size ≤ 3000) (hMq : M.q = [x]) (ht : x.t = 1) (hc : x.c = 1) (hxn : x.nm.size ≤ 3000) (hl : l = encM M) (hb : Bytes w (some ⟨ga, 0, none⟩) l) (hty : RowTy w (some ⟨ga, 0, none⟩)) (hll : l.length ≤ 1000000) (hlc : l.length ≤ c)
    (hf1 : bits .and .i64 M.fl 32768 = 32768) (hf2 : bits .and .i64 M.fl 15 = code) (hid : q.id = M.id) (s0 : 0 ≤ q.server) (s1 : q.server < z.sv.length) (hfr : fr = svAt z q.server) (hnm : (low q.name == low x.nm) = true) (hns : q.name.size ≤ 3000) (top : Int) (htop : top = z.port)
    (hcode : code = 0) (hage : z.age = .slice AA L.length ac) (hK : IsKp w B z.km AA ac L Dm) (hT : (L.map fun p => p.2.pl) ++ keepL now [] M.a = T) (hTp : T.Pairwise fun a b => a.key ≠ b.key) (hTl : T.length ≤ 64)
    (hch : ∀ L' : List (Nat × En), (L'.map fun p => p.2.pl) = T → lookL L' now q.name ≠ none ∧ ∃ err ads nm fo, chase L' now (9 - q.follows).toNat q.name q.follows = (some (err, ads), nm, fo))
    (hcn : ∀ p ∈ T, p.leads = true → isN p.cname.data.toList = true ∧ p.cname.size ≤ 3000) (had : ∀ p ∈ T, p.ad.length ≤ 1000000) (f0 : 0 ≤ q.follows) (f1 : q.follows ≤ 8) (hqn : isN q.name.data.toList = true)
    (sv1 : 1 ≤ z.sv.length) (sv3 : z.sv.length ≤ 3) (n0 : 0 ≤ now) (n1 : now ≤ 1152921504606846976) (se0 : 0 ≤ z.sent) (se1 : z.sent ≤ 1152921504606846976) :
    Calls Tryd.prog 16 #[.pointer (some ⟨rb, 0, none⟩), .agg #[.int .u32 fr, .int .i64 53, .int .u32 to_, .int .i64 top, .slice (some ⟨ga, 0, none⟩) l.length c], .int .i64 now, .int .i64 draw] w (HearL w B rb z Z q now draw T) := by
  subst htop
  have b1 : Below w.heap.size w (w.alloc (.cells #[.int .u32 fr, .int .i64 53, .int .u32 to_, .int .i64 z.port, .slice (some ⟨ga, 0, none⟩) l.length c] 36)) := al (rf w) _
  have DB := Blk.new w 36 #[.int .u32 fr, .int .i64 53, .int .u32 to_, .int .i64 z.port, .slice (some ⟨ga, 0, none⟩) l.length c]
  have R1 := hR.nx b1
  have r1 := R1.b.cell 1
  have d1 := DB.cell 1
  have d3 := DB.cell 3
  have d4 := DB.cell 4
  simp only [Rz.cs, List.getElem?_toArray, List.getElem?_cons_zero, List.getElem?_cons_succ] at r1 d1 d3 d4
  have hw0 : 0 < w.heap.size := by omega
  have HDEC : Hid (∀ w2, Below w.heap.size w w2 → Calls Tryd.prog 13 #[.slice (some ⟨ga, 0, none⟩) l.length c] w2 (DecP2 M w2)) := fun w2 h2 =>
    decC2 w2 M hz hMd (by rw [hMq]; simp; exact hxn) hMn [] l (by rw [List.append_nil]; exact hl) ga 0 c (hb.nx h2) (hty.nx h2) hll hlc
  have hpp : (z.port != z.port) = false := by simp
  have HU0 : Hid (∀ r ∈ M.a, 0 ≤ r.u ∧ r.u ≤ 2147483647) := fun r hr => ⟨((mok_of hz).a r hr).u0, ((mok_of hz).a r hr).u1⟩
  have HK := Lib.hid hK
  have HAG := Lib.hid hage
  have HTT := Lib.hid hT
  have HTP := Lib.hid hTp
  have HCH := Lib.hid hch
  have HCN := Lib.hid hcn
  have HAD := Lib.hid had
  have HQN := Lib.hid hqn
  have hkl := World.ownsMap.lt hK.own
  have hrl := hR.b.lt
  have HR := Lib.hid hR
  have HM := Lib.hid hm
  have HQS := Lib.hid hqs
  have B1 := Lib.hid b1
  have DB1 := Lib.hid DB
  have HMQ := Lib.hid hMq
  have HT := Lib.hid ht
  have HCC := Lib.hid hc
  have HF1 := Lib.hid hf1
  have HF2 := Lib.hid hf2
  have HID := Lib.hid hid
  have HFR := Lib.hid hfr
  have HNM := Lib.hid hnm
  clear hK hage hT hTp hch hcn had hqn hR hqs hm b1 DB R1 hz hMd hMn hMq ht hc hl hb hty hf1 hf2 hid hfr hnm
  go_enter Tryd.func16, Tryd.ntmps16
  go_wp2
  go_quiet (fail)
  generalize hwd : (w.alloc (.cells #[.int .u32 fr, .int .i64 53, .int .u32 to_, .int .i64 z.port, .slice (some ⟨ga, 0, none⟩) l.length c] 36)) = w1 at B1 DB1 r1 d1 d3 d4 ⊢
  have HWD := Lib.hid hwd
  clear hwd
  go_wp2_with fail
  refine (HDEC.out _ (dn B1.out _)).mono ?_
  rintro e w3 ⟨M2, ⟨he, e1, e2, e3, e4, i4, b4⟩, hcap, _, _, _⟩
  obtain ⟨id2, fl2, q2, a2, Q2, A2, n2, m2⟩ := M2
  rw [HMQ.out] at e3
  simp only [List.map_cons, List.map_nil] at e1 e2 e3 e4 hcap
  have e1 := e1.symm
  have e2 := e2.symm
  subst e1 e2 e3
  have he2 : e = .returned (.tuple #[.agg #[.int .i64 M.id, .int .i64 M.fl, .slice Q2 1 n2, .slice A2 a2.length m2], .int .i64 0]) := by rw [he]; rfl
  subst he2
  have B3 := Lib.hid (nx (dn B1.out _) b4)
  have I4 := Lib.hid i4
  have hdz : w.heap.size ≤ w3.heap.size := (nx (dn B1.out _) b4).size
  have hdz1 := (dn B1.out nq).size
  have E4 := Lib.hid e4
  have hcap1 : a2.length ≤ m2 := hcap
  have I3 := Lib.hid (i4 w3 (Nat.le_refl _) (fun _ _ _ => rfl))
  have DB3 := Lib.hid (DB1.out.nx (nx (dn (rf w1) _) b4))
  have kM : Below w3.heap.size w3 (w3.alloc (.cells #[.int .i64 M.id, .int .i64 M.fl, .slice Q2 1 n2, .slice A2 a2.length m2] 43)) := al (rf w3) _
  have B5 := Lib.hid (nx B3.out kM)
  have I5 := Lib.hid (I3.out.nx kM)
  have DB5 := Lib.hid (DB3.out.nx kM)
  have MB5 := Lib.hid (Blk.new w3 43 #[.int .i64 M.id, .int .i64 M.fl, .slice Q2 1 n2, .slice A2 a2.length m2])
  have R5 := Lib.hid (HR.out.nx B5.out)
  have x0 := DB5.out.cell 0
  have x1 := DB5.out.cell 1
  have x2 := DB5.out.cell 2
  have x3 := DB5.out.cell 3
  have x4 := DB5.out.cell 4
  have y0 := MB5.out.cell 0
  have y1 := MB5.out.cell 1
  have y2 := MB5.out.cell 2
  have y3 := MB5.out.cell 3
  simp only [List.getElem?_toArray, List.getElem?_cons_zero, List.getElem?_cons_succ] at x0 x1 x2 x3 x4 y0 y1 y2 y3
  have hfb : (bits .and .i64 M.fl 32768 == 0) = false := by rw [HF1.out]; rfl
  have HOF := Lib.hid (ofCL (w3.alloc (.cells #[.int .i64 M.id, .int .i64 M.fl, .slice Q2 1 n2, .slice A2 a2.length m2] 43)) B rb g z Z q ⟨M.id, M.fl, [rqZ x], a2, Q2, A2, n2, m2⟩ fr 53 to_ z.port (some ⟨ga, 0, none⟩) l.length c (rqZ x) R5.out HQS.out hZl hot I5.out rfl HT.out HCC.out HID.out s0 s1 HFR.out HNM.out hns hxn)
  have K35 := Lib.hid kM
  clear hot he e4 i4 b4 kM hcap r1 d1 d3 d4 HDEC B1 DB1 DB3 I3 HWD
  go_wp2_with fail
  generalize (w3.alloc (.cells #[.int .i64 M.id, .int .i64 M.fl, .slice Q2 1 n2, .slice A2 a2.length m2] 43)) = w5 at K35 B5 I5 DB5 MB5 R5 x0 x1 x2 x3 x4 y0 y1 y2 y3 HOF ⊢
  refine HOF.out.mono ?_
  rintro e w6 ⟨rfl, b6⟩
  have B6 := Lib.hid (nx B5.out b6)
  have R6 := Lib.hid (R5.out.nx b6)
  have MB6 := Lib.hid (MB5.out.nx b6)
  have K36 := Lib.hid (nx K35.out b6)
  have yy1 := (MB6.out.alloc (.cells #[.pointer (some ⟨rb, 0, none⟩), .int .i64 now, .int .i64 draw, .slice none 0 0, .slice none 0 0] 71)).cell 1
  have yy3 := (MB6.out.alloc (.cells #[.pointer (some ⟨rb, 0, none⟩), .int .i64 now, .int .i64 draw, .slice none 0 0, .slice none 0 0] 71)).cell 3
  simp only [List.getElem?_toArray, List.getElem?_cons_zero, List.getElem?_cons_succ] at yy1 yy3
  have kW : Below w6.heap.size w6 (w6.alloc (.cells #[.pointer (some ⟨rb, 0, none⟩), .int .i64 now, .int .i64 draw, .slice none 0 0, .slice none 0 0] 71)) := al (rf w6) _
  have WB7 := Blk.new w6 71 #[.pointer (some ⟨rb, 0, none⟩), .int .i64 now, .int .i64 draw, .slice none 0 0, .slice none 0 0]
  have B7 := Lib.hid (nx B6.out kW)
  have R7 := Lib.hid (R6.out.nx kW)
  have K37 := Lib.hid (nx K36.out kW)
  have hz6 := B6.out.size
  have W7 : Hid (IsWk (w6.alloc (.cells #[.pointer (some ⟨rb, 0, none⟩), .int .i64 now, .int .i64 draw, .slice none 0 0, .slice none 0 0] 71)) w.heap.size w6.heap.size rb now draw [] none 0 [] none 0) := ⟨WB7, hz6, World.ownsRow_nil _ _ _ _, World.ownsRow_nil _ _ _ _, by simp, by simp⟩
  have M7 := Lib.hid (HM.out.below B7.out hw0)
  have hz7 := B7.out.size
  have HKP := Lib.hid (keepsC _ B w.heap.size ((w1.drewN nq).heap.size) w3.heap.size w6.heap.size rb z now draw [] none 0 [] none 0 ⟨M.id, M.fl, [rqZ x], a2, Q2, A2, n2, m2⟩ AA ac L Dm T R7.out HAG.out W7.out (HK.out.nx B7.out) M7.out
    (fun w'' h1 h2 => I4.out w'' h1 (fun i a b => (h2 i a b).trans (K37.out.block i b))) K37.out.size (by omega) (by omega) (fun b h => .inl (by have := (HK.out.age.lt b h).2; omega)) (by show _ ++ keepL now [] a2 = T; rw [keepL_key E4.out]; exact HTT.out) HTP.out hTl hcap1 (u_key E4.out HU0.out) n0 n1 (by omega) hB0)
  have hf2 := HF2.out
  rw [hcode] at hf2
  clear hcode
  clear b6 kW WB7 x0 x1 x2 x3 x4 y0 y1 y2 y3 HOF hfb K35 K36 K37 I4 I5 MB5 MB6 DB5
  go_wp2_with fail
  refine HKP.out.mono ?_
  rintro e w8 ⟨rfl, AA8, ac8, L8, D8, Rd8, Wd8, Kd8, ht8, kt8, bl8⟩
  have qm : (g, q) ∈ z.qs := by rw [HQS.out]; simp
  have qc1 := (Rd8.q (g, q) qm).1.cell 1
  simp only [Qn.cs, List.getElem?_toArray, List.getElem?_cons_zero, List.getElem?_cons_succ] at qc1
  have HV := haveK w8 w6.heap.size rb B z.km AA8 ac8 L8 D8 q.name (by omega) now _ _ Wd8.b rfl rfl Rd8.b rfl Kd8
  obtain ⟨hne, err, ads, nm, fo, hchs⟩ := HCH.out L8 ht8
  obtain ⟨p8, hp8⟩ : ∃ p8, lookL L8 now q.name = some p8 := by
    cases h : lookL L8 now q.name with
    | none => exact absurd h hne
    | some p => exact ⟨p, rfl⟩
  have HV2 := HV.2
  rw [hp8] at HV2
  have HHV := Lib.hid HV2
  have R8 := Lib.hid Rd8
  have W8 := Lib.hid Wd8
  have K8 := Lib.hid Kd8
  have T8 := Lib.hid ht8
  have KT8 := Lib.hid kt8
  have M8 := Lib.hid (M7.out.below bl8 hB0)
  have BL8 := Lib.hid bl8
  have HCHS := Lib.hid hchs
  have hz8 := bl8.size
  clear HV HV2 Rd8 Wd8 Kd8 ht8 kt8 bl8 hchs hne hp8 qm HKP yy1 yy3
  unfold entP at HHV
  go_wp2_with fail
  refine HHV.out.mono ?_
  rintro e w9 ⟨rfl, b9⟩
  have B89 := Lib.hid b9
  have hz9 := b9.size
  have R9 := Lib.hid (R8.out.nx b9)
  have W9 := Lib.hid (W8.out.nx b9)
  have K9 := Lib.hid (K8.out.nx b9)
  have M9 := Lib.hid (M8.out.nx b9)
  have HG := Lib.hid (goesKL w9 B w.heap.size w6.heap.size rb g { z with age := .slice AA8 L8.length ac8 } Z now draw [] none 0 [] none 0 AA8 ac8 L8 D8 q R9.out W9.out HQS.out hZl K9.out M9.out f0 f1 (fun p hp h => HCN.out p.2.pl (by rw [← T8.out]; exact List.mem_map.2 ⟨p, hp, rfl⟩) h) (fun p hp => HAD.out p.2.pl (by rw [← T8.out]; exact List.mem_map.2 ⟨p, hp, rfl⟩)) HQN.out hns sv1 sv3 n0 n1 se0 se1 (by simp) (by simp) hB (by omega))
  clear b9 HHV qc1 M8 M9
  go_wp2_with fail
  refine HG.out.mono ?_
  rintro e w10 ⟨rfl, k1, k2, b10, hcase⟩
  rcases hcase with ⟨err2, ads2, nm2, fo2, A3, k3, FA3, fc3, QA3, qc3, hc2, Rz2, Wz2⟩ | ⟨nm2, fo2, _, _, _, _, hc2, _⟩
  rotate_left
  · exact absurd (congrArg Prod.fst (HCHS.out.symm.trans hc2)) (by simp)
  have y3 := Wz2.b.cell 3
  have y4 := Wz2.b.cell 4
  simp only [List.getElem?_toArray, List.getElem?_cons_zero, List.getElem?_cons_succ] at y3 y4
  have HRz := Lib.hid Rz2
  have HWz := Lib.hid Wz2
  have HK1 := Lib.hid k1
  have HK2 := Lib.hid k2
  have HB10 := Lib.hid b10
  have HC2 := Lib.hid hc2
  have hzd := b10.size
  clear HG k1 k2 b10 hc2 Rz2 Wz2
  go_wp2
  go_quiet (fail)
  go_wp2
  go_ret2
  have kk : ∀ nq, KeepT w.heap.size [68, 64, 66, 60, 74] w (w10.drewN nq) := fun nq =>
    ((((KeepT.of_below B7.out (Nat.le_refl _)).trans ((KT8.out.mono (by decide)).less hz7)).trans (KeepT.of_below B89.out (by omega))).trans (HK2.out.mono (by decide))).trans (KeepT.of_below (dn (rf w10) nq) (by omega))
  have kb := fun nq => ((((B7.out.mono hB).trans BL8.out).trans (B89.out.mono (by omega))).trans HB10.out).trans ((dn (rf w10) nq).mono (by omega))
  refine ⟨AA8, ac8, L8, D8, err2, ads2, nm2, fo2, A3, k3, QA3, qc3, FA3, fc3, rfl, T8.out, HC2.out, HRz.out.nx (dn (rf w10) _), (K9.out.keep HK1.out (by decide) (by decide) (by decide) (by decide)).nx (dn (rf w10) _), ?_, ?_, kk _, kb _⟩
  · have h := own_nx HWz.out.f (dn (rf w10) nq)
    simpa using h
  · have h := own_nx (HWz.out.fd ⟨q.first, err2, ads2, A3, k3⟩ (by simp)) (dn (rf w10) nq)
    exact h
end
section
open Go.RowKit Go.Maps

theorem idV_eq (d s : Int) (h0 : 0 ≤ s) (h1 : s < 65536) : idV d s = (d % 65536 + s) % 65536 := by
  unfold idV
  rw [mask_eq, mask_eq, mask_eq]
  have hs : s % 65536 = s := Int.emod_eq_of_lt h0 h1
  rw [hs]
  have hw : wrap64 (d % 65536 + s) = d % 65536 + s := by
    unfold wrap64
    omega
  rw [hw]
theorem id_ne {d : Int} {i j : Nat} (hi : i < 100) (hj : j < 100) (h : i ≠ j) : idV d i ≠ idV d j := by
  rw [idV_eq d i (by omega) (by omega), idV_eq d j (by omega) (by omega)]
  omega
theorem ask_head (id : Int) (s : ByteArray) : ∃ t, askB id s = UInt8.ofNat (id.toNat / 256 % 256) :: UInt8.ofNat (id.toNat % 256) :: t := by
  unfold askB encM h6 askM
  simp only [List.flatMap_cons, beB, List.cons_append, List.nil_append, Nat.pow_one, Nat.pow_zero, Nat.div_one]
  exact ⟨_, rfl⟩
theorem head_ne {a b : Int} (a0 : 0 ≤ a) (a1 : a ≤ 65535) (b0 : 0 ≤ b) (b1 : b ≤ 65535) (h : a ≠ b) :
    ((UInt8.ofNat (a.toNat / 256 % 256)).toNat : Int) ≠ (UInt8.ofNat (b.toNat / 256 % 256)).toNat ∨ ((UInt8.ofNat (a.toNat % 256)).toNat : Int) ≠ (UInt8.ofNat (b.toNat % 256)).toNat := by
  have e : ∀ x : Nat, (UInt8.ofNat (x % 256)).toNat = x % 256 := fun x => by simp [UInt8.toNat_ofNat']
  rw [e, e, e, e]
  omega
theorem low_N0 : ∀ i j : Fin 22, i ≠ j → (low (nmB i.val) == low (nmB j.val)) = false := by decide +kernel
theorem low_N {i j : Nat} (hi : i ≤ 21) (hj : j ≤ 21) (h : i ≠ j) : (low (nmB i) == low (nmB j)) = false := low_N0 ⟨i, by omega⟩ ⟨j, by omega⟩ (fun e => h (by injection e))
def qnI (draw : Int) (j : Nat) : Qn := ⟨nmB j, nmB j, 0, idV draw j, 0, 1, 50⟩
def entI (j : Nat) : Pe := ⟨nmB j, ⟨#[]⟩, false, [(j : Int)], 51⟩
-- what is kept when m of n have been answered
def TI (n m : Nat) : List Pe := (List.range m).map fun t => entI (n - 1 - t)
theorem TI_succ (n m : Nat) : TI n (m + 1) = TI n m ++ [entI (n - 1 - m)] := by
  unfold TI
  rw [List.range_succ, List.map_append]; rfl
theorem pair_I0 : ∀ n m : Fin 21, m ≤ n → (TI n.val m.val).Pairwise fun a b => a.key ≠ b.key := by decide +kernel
theorem pair_I {n m : Nat} (hn : n ≤ 20) (hm : m ≤ n) : (TI n m).Pairwise fun a b => a.key ≠ b.key := pair_I0 ⟨n, by omega⟩ ⟨m, by omega⟩ hm
theorem TI_len (n m : Nat) : (TI n m).length = m := by unfold TI; simp
theorem keep_I {j : Nat} (hj : j ≤ 20) {r : Rc} (hr : r.key = (recT (nmB j) 5 j).key) : keepL 1 [] [r] = [entI j] := by
  have h := keep_one (now := 1) (s := nmB j) (u := 5) [(j : Int)] (by simp) (fun a ha => by rw [List.mem_singleton.1 ha]; omega)
  have h2 := keepL_key (now := 1) (done := []) (l := [recT (nmB j) 5 j]) (l2 := [r]) (by simp [hr])
  rw [h2]
  have e : lowS (nmB j) = nmB j := (nm_N (by omega)).1
  rw [e] at h
  exact h
theorem look_I {n m : Nat} (hn : n ≤ 20) (hm : m + 1 ≤ n) {L : List (Nat × En)} (h : (L.map fun p => p.2.pl) = TI n (m + 1)) : ∃ p, lookL L 1 (nmB (n - 1 - m)) = some p ∧ p.2.leads = false ∧ p.2.ad = [((n - 1 - m : Nat) : Int)] := by
  have hap : L.Pairwise fun p q => p.2.key ≠ q.2.key := by
    have h2 := pair_I hn hm
    rw [← h, List.pairwise_map] at h2
    exact h2
  have hmem : entI (n - 1 - m) ∈ TI n (m + 1) := by rw [TI_succ]; exact List.mem_append.2 (.inr (List.mem_singleton.2 rfl))
  rw [← h] at hmem
  obtain ⟨p, hp, hpe⟩ := List.mem_map.1 hmem
  have e1 : p.2.key = nmB (n - 1 - m) := congrArg Pe.key hpe
  have e2 : p.2.behind = 51 := congrArg Pe.behind hpe
  exact ⟨p, look_of hap hp (by rw [e1, (nm_N (by omega)).1]) (by rw [e2]; omega), congrArg Pe.leads hpe, congrArg Pe.ad hpe⟩
theorem chase_I {n m : Nat} (hn : n ≤ 20) (hm : m + 1 ≤ n) {L : List (Nat × En)} (h : (L.map fun p => p.2.pl) = TI n (m + 1)) : lookL L 1 (nmB (n - 1 - m)) ≠ none ∧ chase L 1 9 (nmB (n - 1 - m)) 0 = (some (0, [((n - 1 - m : Nat) : Int)]), nmB (n - 1 - m), 0) := by
  obtain ⟨p, h1, h2, h3⟩ := look_I hn hm h
  refine ⟨by rw [h1]; simp, ?_⟩
  have h4 := chase_end (n := 8) (fo := 0) h1 h2
  rw [h3] at h4
  exact h4
theorem ent_I {n m : Nat} : ∀ p ∈ TI n m, p.leads = false ∧ p.ad.length = 1 := fun p hp => by
  obtain ⟨t, _, rfl⟩ := List.mem_map.1 hp
  exact ⟨rfl, rfl⟩
-- a slice of rows of five cells, read as cells
theorem rows_own5 {α : Type} {w : World} {B n c : Nat} {t : TypeId} {Q : Option Addr} {l : List α} {f : α → List Value} (hf : ∀ x, (f x).length = 5) (h : w.ownsRow B t 5 (.slice Q n c) n (l.flatMap f)) (hl : l.length = n) {i : Nat} {x : α} (hx : l[i]? = some x) :
    ∃ g, Q = some ⟨g, 0, none⟩ ∧ B ≤ g ∧ ∀ j u, (f x)[j]? = some u → w.cell? ⟨g, i * 5 + j, none⟩ = some u := by
  have hi : i < n := by rw [← hl]; exact (List.getElem?_eq_some_iff.1 hx).1
  rcases h.2 with ⟨e, h0⟩ | ⟨g, cap, cur, e, hg, hh, h1, h2, h3, h4⟩
  · omega
  · injection e with e1 e2 e3
    refine ⟨g, e1, hg, fun j u hu => ?_⟩
    have hj : j < 5 := by rw [← hf x]; exact (List.getElem?_eq_some_iff.1 hu).1
    rw [Blk.cell (show Blk w g t cur from hh)]
    have h5 := flat_at hf l i x hx j hj
    rw [← h4, List.getElem?_take_of_lt (by omega), Array.getElem?_toList] at h5
    rw [h5]; exact hu
-- what stands while questions are asked
structure Si (w ws : World) (B rb : Nat) (z : Rz) (draw : Int) (k : Nat) (Qs : List (Nat × Qn)) (QA : Option Addr) (qc : Nat) (ds : List Dg) (SA : Option Addr) (sc : Nat) : Prop where
  rv : IsRv ws B rb { z with sent := (k : Int), qs := Qs, QA := QA, qc := qc }
  K : KE ws z.km
  q : Qs.map (·.2) = (List.range k).map (qnI draw)
  s : ws.ownsRow w.heap.size 36 5 (.slice SA ds.length sc) ds.length (ds.flatMap Dg.cs)
  dd : ∀ x ∈ ds, ws.ownsRow w.heap.size 5 1 (.slice x.A x.da.length x.k) x.da.length (Lib.byteCells x.da)
  e : ds.map (·.da) = (List.range k).map fun (j : Nat) => askB (idV draw j) (nmB j)
  M : MaxL ws
  be : Below w.heap.size w ws
section
variable {w ws w1 : World} {B rb : Nat} {z : Rz} {draw : Int} {k : Nat} {Qs : List (Nat × Qn)} {QA : Option Addr} {qc : Nat} {ds : List Dg} {SA : Option Addr} {sc : Nat}
theorem Si.nx (h : Si w ws B rb z draw k Qs QA qc ds SA sc) (q : Below ws.heap.size ws w1) : Si w w1 B rb z draw k Qs QA qc ds SA sc :=
  ⟨h.rv.nx q, h.K.nx q, h.q, own_nx h.s q, fun x hx => own_nx (h.dd x hx) q, h.e, h.M.nx q, h.be.trans (q.mono h.be.size)⟩
theorem Si.len (h : Si w ws B rb z draw k Qs QA qc ds SA sc) : Qs.length = k ∧ ds.length = k := by
  have h1 := congrArg List.length h.q
  have h2 := congrArg List.length h.e
  simp at h1 h2
  exact ⟨h1, h2⟩
theorem Si.at_ (h : Si w ws B rb z draw k Qs QA qc ds SA sc) {j : Nat} (hj : j < k) : ∃ d, ds[j]? = some d ∧ d.da = askB (idV draw j) (nmB j) := by
  have hl := h.len.2
  refine ⟨ds[j], List.getElem?_eq_getElem (by omega), ?_⟩
  have h2 := congrArg (fun l => l[j]?) h.e
  simp only [List.getElem?_map, List.getElem?_eq_getElem (show j < ds.length by omega), Option.map_some, List.getElem?_range hj, Option.some.injEq] at h2
  exact h2
theorem Si.qn (h : Si w ws B rb z draw k Qs QA qc ds SA sc) {j : Nat} (hj : j < k) : ∃ g, Qs[j]? = some (g, qnI draw j) := by
  have hl := h.len.1
  have h2 := congrArg (fun l => l[j]?) h.q
  simp only [List.getElem?_map, List.getElem?_eq_getElem (show j < Qs.length by omega), Option.map_some, List.getElem?_range hj, Option.some.injEq] at h2
  exact ⟨Qs[j].1, by rw [List.getElem?_eq_getElem (show j < Qs.length by omega), ← h2]⟩
theorem Si.ids (h : Si w ws B rb z draw k Qs QA qc ds SA sc) (hk : k ≤ 20) {j : Nat} (hj : j < k) : ∀ p ∈ Qs.take j, p.2.id ≠ idV draw j := fun p hp => by
  obtain ⟨t, ht⟩ := List.getElem?_of_mem hp
  have htj : t < j := by
    have h1 := (List.getElem?_eq_some_iff.1 ht).1
    rw [List.length_take] at h1
    omega
  rw [List.getElem?_take_of_lt htj] at ht
  obtain ⟨g, hg⟩ := h.qn (j := t) (by omega)
  rw [hg] at ht
  injection ht with ht
  rw [← ht]
  exact id_ne (by omega) (by omega) (by omega)
theorem Si.take (h : Si w ws B rb z draw k Qs QA qc ds SA sc) {j : Nat} (hj : j < k) : ∃ g, Qs.take (j + 1) = Qs.take j ++ [(g, qnI draw j)] := by
  obtain ⟨g, hg⟩ := h.qn hj
  exact ⟨g, by rw [List.take_add_one, hg]; rfl⟩
theorem Si.other (h : Si w ws B rb z draw k Qs QA qc ds SA sc) (hk : k ≤ 20) : ∀ p ∈ Qs, (low p.2.first == low (nmB k)) = false ∧ p.2.first.size ≤ 3000 := fun p hp => by
  have h1 : p.2 ∈ Qs.map (·.2) := List.mem_map.2 ⟨p, hp, rfl⟩
  rw [h.q] at h1
  obtain ⟨j, hj, he⟩ := List.mem_map.1 h1
  have hjk := List.mem_range.1 hj
  rw [← he]
  exact ⟨low_N (by omega) (by omega) (by omega), by show 1 ≤ 3000; omega⟩
end
-- what stands while they are answered, the last first
structure Sj (w ws : World) (B rb : Nat) (z : Rz) (n i : Nat) (Qs : List (Nat × Qn)) (QA : Option Addr) (qc : Nat) (ds : List Dg) (SA : Option Addr) (sc : Nat) (AA : Option Addr) (ac : Nat) (L : List (Nat × En)) (D : DataW Unit) : Prop where
  rv : IsRv ws B rb { z with sent := (n : Int), age := .slice AA L.length ac, qs := Qs.take i, QA := QA, qc := qc }
  K : IsKp ws B z.km AA ac L D
  t : (L.map fun p => p.2.pl) = TI n (n - i)
  s : ws.ownsRow w.heap.size 36 5 (.slice SA n sc) n (ds.flatMap Dg.cs)
  dd : ∀ x ∈ ds, ws.ownsRow w.heap.size 5 1 (.slice x.A x.da.length x.k) x.da.length (Lib.byteCells x.da)
  M : MaxL ws
  be : Below w.heap.size w ws
section
variable {w ws w1 : World} {B rb n i : Nat} {z : Rz} {Qs : List (Nat × Qn)} {QA : Option Addr} {qc : Nat} {ds : List Dg} {SA : Option Addr} {sc : Nat} {AA : Option Addr} {ac : Nat} {L : List (Nat × En)} {D : DataW Unit}
theorem Sj.nx (h : Sj w ws B rb z n i Qs QA qc ds SA sc AA ac L D) (q : Below ws.heap.size ws w1) : Sj w w1 B rb z n i Qs QA qc ds SA sc AA ac L D :=
  ⟨h.rv.nx q, h.K.nx q, h.t, own_nx h.s q, fun x hx => own_nx (h.dd x hx) q, h.M.nx q, h.be.trans (q.mono h.be.size)⟩
end
set_option maxRecDepth 100000 in
theorem countC (w : World) (B rb : Nat) (z : Rz) (AA : Option Addr) (n ac : Nat) (hR : IsRv w B rb z) (ha : z.age = .slice AA n ac) : Calls Tryd.prog 17 #[.pointer (some ⟨rb, 0, none⟩)] w fun e w' => e = .returned (.tuple #[.int .i64 z.qs.length, .int .i64 n]) ∧ Below w.heap.size w w' := by
  have c3 : w.cell? ⟨rb, 3, none⟩ = some (.slice z.QA z.qs.length z.qc) := hR.b.cell 3
  have c5 : w.cell? ⟨rb, 5, none⟩ = some (.slice AA n ac) := by rw [← ha]; exact hR.b.cell 5
  clear hR ha
  go_enter Tryd.func17, Tryd.ntmps17
  go_wp2
  go_quiet (fail)
  go_wp2
  go_ret2
  exact ⟨rfl, dn (rf w) _⟩
theorem b4_small (j : Nat) (h : j ≤ 20) : Lib.byteCells (b4 (j : Int)) = [.int .u8 0, .int .u8 0, .int .u8 0, .int .u8 (j : Int)] := by
  rw [b4_cells, show (j : Int) / 16777216 % 256 = 0 by omega, show (j : Int) / 65536 % 256 = 0 by omega, show (j : Int) / 256 % 256 = 0 by omega, show (j : Int) % 256 = j by omega]
theorem TI_next {k j : Nat} (h : j < k) : TI k (k - (j + 1)) ++ [entI j] = TI k (k - j) := by
  rw [show k - j = (k - (j + 1)) + 1 by omega, TI_succ, show k - 1 - (k - (j + 1)) = j by omega]
theorem chase_J {k j : Nat} (hk : k ≤ 20) (hj : j < k) {L : List (Nat × En)} (h : (L.map fun p => p.2.pl) = TI k (k - j)) : lookL L 1 (nmB j) ≠ none ∧ chase L 1 9 (nmB j) 0 = (some (0, [(j : Int)]), nmB j, 0) := by
  have e : k - 1 - (k - (j + 1)) = j := by omega
  have h2 := chase_I (n := k) (m := k - (j + 1)) hk (by omega) (L := L) (by rw [h]; congr 1; omega)
  rw [e] at h2
  exact h2
theorem wraps_j {j : Nat} (h : j ≤ 20) : IntKind.i64.wrap (97 + (j : Int)) = 97 + (j : Int) ∧ IntKind.u32.wrap (j : Int) = (j : Int) ∧ IntKind.u8.wrap (97 + (j : Int)) = 97 + (j : Int) ∧ ((j : Int) != j) = false := by
  refine ⟨?_, ?_, ?_, by simp⟩
  · rw [IntKind.wrap_i64]; omega
  · rw [IntKind.wrap_u32]; omega
  · rw [IntKind.wrap_u8]; omega
theorem nm_at {j : Nat} (h : j ≤ 20) : ((UInt8.ofNat (97 + j)).toNat : Int) = 97 + (j : Int) := by simp [UInt8.toNat_ofNat']; omega
theorem conv_nm {w' : World} {g j : Nat} (h : j ≤ 20) (hb : Blk w' g 5 #[.int .u8 (97 + (j : Int))]) : (convert 34 9 (.slice (some ⟨g, 0, none⟩) 1 1)).run Tryd.prog w' = .ok (.string (nmB j)) w' := by
  refine convStr _ _ [UInt8.ofNat (97 + j)] 1 1 (Reads.blk hb rfl ?_) rfl
  simp only [Lib.byteCells, List.map_cons, List.map_nil, nm_at h]
end
section
open Go.RowKit Go.Maps

set_option maxRecDepth 1000000 in
set_option maxHeartbeats 6400000 in
theorem ids_walk (w : World) (n draw : Int) (hm : MaxL w) (hpos : 0 < w.heap.size) :
    Calls Tryd.prog 7 #[.int .i64 n, .int .i64 draw] w fun e w' => e = .returned (.bool true) ∧ Below w.heap.size w w' := by
  have KN := Lib.hid (knownR w hm hpos)
  by_cases n0 : n < 0
  · clear hm
    go_enter Tryd.func7, Tryd.ntmps7
    go_wp2_with fail
    refine KN.out.mono ?_
    rintro e w1 ⟨rfl, b1⟩
    go_wp2
    go_ret
    exact ⟨rfl, b1⟩
  by_cases n1 : 20 < n
  · clear hm
    go_enter Tryd.func7, Tryd.ntmps7
    go_wp2_with fail
    refine KN.out.mono ?_
    rintro e w1 ⟨rfl, b1⟩
    go_wp2
    go_ret
    exact ⟨rfl, b1⟩
  obtain ⟨N, rfl⟩ : ∃ N : Nat, n = N := ⟨n.toNat, by omega⟩
  have hN20 : N ≤ 20 := by omega
  clear KN
  have b0 : Below w.heap.size w (w.alloc (.cells #[.int .u32 5] 33)) := al (rf w) _
  have HN := Lib.hid (newC2 (w.alloc (.cells #[.int .u32 5] 33)) (some ⟨w.heap.size, 0, none⟩) [5] 1 9 (Reads.blk (blk_at _ _ _ rfl) rfl rfl) (by simp) (by simp) (by simp) (by omega) (by omega))
  have B0 := Lib.hid b0
  have HM := Lib.hid hm
  clear b0 hm
  have hs0w : (w.alloc (.cells #[.int .u32 5] 33)).heap.size = w.heap.size + 1 := by simp
  go_enter Tryd.func7, Tryd.ntmps7
  go_wp2_with fail
  refine HN.out.mono ?_
  rintro e w1 ⟨z, rb, rfl, hR, hK, hsv, hpo, hse, hqs, hQA, hqc, hag, hkb, b1⟩
  have B1 := Lib.hid (nx B0.out b1)
  have hz1 := b1.size
  have HSV := Lib.hid hsv
  have HPO := Lib.hid hpo
  have HSE := Lib.hid hse
  have HQS := Lib.hid hqs
  have HAG := Lib.hid hag
  have M1 := HM.out.below B1.out hpos
  unfold ptr
  have ez : ({ z with sent := ((0 : Nat) : Int), qs := [], QA := none, qc := 0 } : Rz) = z := by
    cases z
    simp only at hse hqs hQA hqc
    rw [hse, hqs, hQA, hqc]; rfl
  obtain ⟨Bz, hBz⟩ : ∃ Bz, (w.alloc (.cells #[.int .u32 5] 33)).heap.size = Bz := ⟨_, rfl⟩
  rw [hBz] at hR hkb
  have hBw : w.heap.size < Bz := by rw [← hBz]; simp
  have S0 : Hid (Si w w1 Bz rb z draw 0 [] none 0 [] none 0) := ⟨by rw [ez]; exact hR, hK, rfl, World.ownsRow_nil _ _ _ _, by simp, rfl, M1, B1.out⟩
  have HKB := Lib.hid hkb
  clear hR hK hsv hpo hse hqs hQA hqc b1 HN hag M1 ez hBz hkb HQS B0 HSE hs0w
  go_wp2
  go_loopw [7, 8] (fun sv kv ws => ∃ (k : Nat) (Qs : List (Nat × Qn)) (QA : Option Addr) (qc : Nat) (ds : List Dg) (SA : Option Addr) (sc : Nat), sv = .slice SA k sc ∧ kv = .int .i64 k ∧ k ≤ N ∧ Hid (Si w ws Bz rb z draw k Qs QA qc ds SA sc)) (fun _ kv _ => N - (intOf kv).toNat)
  case atStart => exact ⟨0, [], none, 0, [], none, 0, rfl, rfl, Nat.zero_le _, S0.out⟩
  case round =>
    clear S0 B1 hz1
    obtain ⟨k, Qs, QA, qc, ds, SA, sc, rfl, rfl, hk, HS⟩ := hrel
    have hlq := HS.out.len.1
    have hld := HS.out.len.2
    have HLQ := Lib.hid hlq
    have HLD := Lib.hid hld
    clear hlq hld
    by_cases hlt : k < N
    · have k0 : (0 : Int) ≤ k := by omega
      have k1 : (k : Int) < N := by omega
      have k20 : (k : Int) ≤ 20 := by omega
      have eu : ((UInt8.ofNat (97 + k)).toNat : Int) = 97 + (k : Int) := by simp [UInt8.toNat_ofNat']; omega
      have hcv : (convert 34 9 (.slice (some ⟨wr.heap.size, 0, none⟩) 1 1)).run Tryd.prog (wr.alloc (.cells #[.int .u8 (97 + (k : Int))] 5)) = .ok (.string (nmB k)) (wr.alloc (.cells #[.int .u8 (97 + (k : Int))] 5)) := by
        refine convStr _ _ [UInt8.ofNat (97 + k)] 1 1 (Reads.blk (Blk.new wr _ _) rfl ?_) rfl
        simp only [Lib.byteCells, List.map_cons, List.map_nil, eu]
      clear eu
      have S1 := Lib.hid (HS.out.nx (al (rf wr) (.cells #[.int .u8 (97 + (k : Int))] 5)))
      have hwz1 : w.heap.size < (wr.alloc (.cells #[.int .u8 (97 + (k : Int))] 5)).heap.size := by have h1 := S1.out.rv.lo; have h2 := S1.out.rv.b.lt; omega
      have HA := Lib.hid (askE _ Bz rb { z with sent := (k : Int), qs := Qs, QA := QA, qc := qc } (nmB k) 0 draw S1.out.rv S1.out.K S1.out.M (by show Qs.length < 32; rw [HLQ.out]; omega) (nm_N (by omega)).2.1 (by show 1 ≤ 3000; omega) (by show 1 ≠ 0; omega) (by rw [HSV.out]; decide) (by rw [HSV.out]; decide) (by omega) (by omega) (by omega) (by show (k : Int) ≤ _; omega) (by have h1 := S1.out.rv.lo; have h2 := S1.out.rv.b.lt; omega) (by omega) (S1.out.other (by omega)))
      go_wp2_with fail
      generalize (wr.alloc (.cells #[.int .u8 (97 + (k : Int))] 5)) = wa at S1 HA hwz1 ⊢
      refine HA.out.mono ?_
      rintro e w2 ⟨g, QA2, qc2, A2, k2, hg, FA2, DA2, fc2, dc2, rfl, hR2, _, own2, _, hdd, kt2, b2⟩
      obtain ⟨l, hl⟩ : ∃ l, askB (idV draw k) (nmB k) = l := ⟨_, rfl⟩
      obtain ⟨po, hpo⟩ : ∃ po, z.port = po := ⟨_, rfl⟩
      obtain ⟨to_, hto⟩ : ∃ to_, svAt { z with sent := (k : Int), qs := Qs, QA := QA, qc := qc } 0 = to_ := ⟨_, rfl⟩
      obtain ⟨gd, rfl, hgd, hc⟩ := row5 (d := ⟨po, to_, l, A2, k2⟩) (by rw [← hpo, ← hto, ← hl]; exact own2)
      have hby := hdd _ (List.mem_singleton.2 rfl)
      obtain ⟨tl, htl⟩ := ask_head (idV draw k) (nmB k)
      rw [hl] at htl
      have hbyl : w2.ownsRow wa.heap.size 5 1 (.slice A2 l.length k2) l.length (Lib.byteCells l) := by rw [← hl]; exact hby
      obtain ⟨ga, cap, hv, _, hga, _, _, cur, hcur, _, htk⟩ := own_form hbyl (by rw [htl]; simp)
      injection hv with hv1 _ hv3
      subst hv1 hv3
      have d0 := hc 0 _ rfl
      have d1 := hc 1 _ rfl
      have d2 := hc 2 _ rfl
      have d3 := hc 3 _ rfl
      have d4 := hc 4 _ rfl
      simp only at d0 d1 d2 d3 d4
      have S1s : w2.ownsRow w.heap.size 36 5 (.slice SA k sc) k (ds.flatMap Dg.cs) := by
        have h := kt2.own S1.out.s (by decide)
        rw [HLD.out] at h
        exact h
      have S1d : ∀ x ∈ ds, w2.ownsRow w.heap.size 5 1 (.slice x.A x.da.length x.k) x.da.length (Lib.byteCells x.da) := fun x hx => kt2.own (S1.out.dd x hx) (by decide)
      have HR2 := Lib.hid hR2
      have HK2 := Lib.hid (S1.out.K.keep kt2 (by decide))
      have HSS := Lib.hid S1s
      have HSD := Lib.hid S1d
      have HBY := Lib.hid hbyl
      have HCU := Lib.hid hcur
      have HTK := Lib.hid htk
      have HTL := Lib.hid htl
      have HL := Lib.hid hl
      have HPOR := Lib.hid hpo
      have HTO := Lib.hid hto
      have B2 := Lib.hid (S1.out.be.trans (b2.mono (by omega)))
      have hz2 := b2.size
      have M2 := Lib.hid (S1.out.M.below b2 (by omega))
      have u0 : w2.cell? ⟨ga, 0, none⟩ = some (.int .u8 ((UInt8.ofNat ((idV draw k).toNat / 256 % 256)).toNat : Int)) := by
        rw [take_cell hcur htk (by rw [htl]; simp), htl]; rfl
      have u1 : w2.cell? ⟨ga, 1, none⟩ = some (.int .u8 ((UInt8.ofNat ((idV draw k).toNat % 256)).toNat : Int)) := by
        rw [take_cell hcur htk (by rw [htl]; simp), htl]; rfl
      have HU0 := Lib.hid u0
      have HU1 := Lib.hid u1
      have HD0 := Lib.hid d0
      have HD1 := Lib.hid d1
      have HD2 := Lib.hid d2
      have HD3 := Lib.hid d3
      have HD4 := Lib.hid d4
      have hll : Hid (2 ≤ l.length) := by show _ ≤ _; rw [htl]; simp
      clear S1s S1d hR2 own2 hdd kt2 b2 hby hbyl hcur htk htl hl hpo hto hc HA hcv u0 u1 d0 d1 d2 d3 d4 HS
      go_wp2
      obtain ⟨wz, hwz⟩ : ∃ wz, wz = w2 := ⟨_, rfl⟩
      have HWZ := Lib.hid hwz
      clear hwz
      go_loopw [11] (fun kv ws => ∃ (j nd : Nat), kv = .int .i64 j ∧ j ≤ k ∧ Hid (ws = wz.drewN nd)) (fun kv _ => k - (intOf kv).toNat)
      case atStart => exact ⟨0, 0, rfl, Nat.zero_le _, HWZ.out.symm⟩
      case round =>
        obtain ⟨j, nd, rfl, hj, HWR⟩ := hrel
        have ew : wr = w2.drewN nd := by rw [HWR.out, HWZ.out]
        have EW := Lib.hid ew
        by_cases hjk : j < k
        · obtain ⟨d, hd, hdd⟩ := S1.out.at_ hjk
          obtain ⟨sb, hSA, _, hcs⟩ := rows_own5 (f := Dg.cs) (fun _ => rfl) HSS.out HLD.out hd
          subst hSA
          have c4 := hcs 4 _ rfl
          have od := HSD.out d (List.mem_of_getElem? hd)
          obtain ⟨tl2, htl2⟩ := ask_head (idV draw j) (nmB j)
          rw [← hdd] at htl2
          obtain ⟨dn, hdn⟩ : ∃ dn, d.da.length = dn := ⟨_, rfl⟩
          have hdn2 : 2 ≤ dn := by rw [← hdn, htl2]; simp
          rw [hdn] at od c4
          obtain ⟨gb, cap2, hv2, _, _, _, _, cur2, hcur2, _, htk2⟩ := own_form od (by omega)
          injection hv2 with hv3 _ hv4
          rw [hv3] at c4
          have e0 : wr.cell? ⟨gb, 0, none⟩ = some (.int .u8 ((UInt8.ofNat ((idV draw j).toNat / 256 % 256)).toNat : Int)) := by
            rw [ew]; show w2.cell? _ = _
            rw [take_cell hcur2 htk2 (by omega), htl2]; rfl
          have e1 : wr.cell? ⟨gb, 1, none⟩ = some (.int .u8 ((UInt8.ofNat ((idV draw j).toNat % 256)).toNat : Int)) := by
            rw [ew]; show w2.cell? _ = _
            rw [take_cell hcur2 htk2 (by omega), htl2]; rfl
          have c4r : wr.cell? ⟨sb, j * 5 + 4, none⟩ = some (.slice (some ⟨gb, 0, none⟩) dn d.k) := by rw [ew]; exact c4
          have f4 : wr.cell? ⟨gd, 4, none⟩ = some (.slice (some ⟨ga, 0, none⟩) l.length k2) := by rw [ew]; exact HD4.out
          have f0 : wr.cell? ⟨ga, 0, none⟩ = some (.int .u8 ((UInt8.ofNat ((idV draw k).toNat / 256 % 256)).toNat : Int)) := by rw [ew]; exact HU0.out
          have f1 : wr.cell? ⟨ga, 1, none⟩ = some (.int .u8 ((UInt8.ofNat ((idV draw k).toNat % 256)).toNat : Int)) := by rw [ew]; exact HU1.out
          have hne := head_ne (idV_le draw j).1 (idV_le draw j).2 (idV_le draw k).1 (idV_le draw k).2 (id_ne (by omega) (by omega) (by omega : j ≠ k))
          obtain ⟨x0, hx0⟩ : ∃ x : Int, ((UInt8.ofNat ((idV draw j).toNat / 256 % 256)).toNat : Int) = x := ⟨_, rfl⟩
          obtain ⟨x1, hx1⟩ : ∃ x : Int, ((UInt8.ofNat ((idV draw j).toNat % 256)).toNat : Int) = x := ⟨_, rfl⟩
          obtain ⟨y0, hy0⟩ : ∃ x : Int, ((UInt8.ofNat ((idV draw k).toNat / 256 % 256)).toNat : Int) = x := ⟨_, rfl⟩
          obtain ⟨y1, hy1⟩ : ∃ x : Int, ((UInt8.ofNat ((idV draw k).toNat % 256)).toNat : Int) = x := ⟨_, rfl⟩
          rw [hx0] at e0 hne
          rw [hx1] at e1 hne
          rw [hy0] at f0 hne
          rw [hy1] at f1 hne
          have j0 : (0 : Int) ≤ j := by omega
          have j1 : (j : Int) < k := by omega
          have n0 : (0 : Int) < dn := by omega
          have n1' : (1 : Int) < dn := by omega
          have hl2 := hll.out
          have n2 : (0 : Int) < l.length := by omega
          have n3 : (1 : Int) < l.length := by omega
          clear ew hcs hd hdd c4 od hcur2 htk2 htl2 hdn hdn2 hx0 hx1 hy0 hy1 hv3 hv4 hl2
          by_cases hq : x0 = y0
          · have b1 : (x1 == y1) = false := by
              rcases hne with h | h
              · exact absurd hq h
              · simpa using h
            have b0 : (x0 == y0) = true := by simpa using hq
            clear hne hq
            go_wp2
            go_quiet (fail)
            go_wp2
            go_roundw
            case rel => exact ⟨j + 1, nd + nq, by go_num, by omega, by show _ = _; rw [HWR.out, World.drewN_drewN]⟩
            case measure => simp [intOf]; omega
          · have b0 : (x0 == y0) = false := by simpa using hq
            clear hne hq
            go_wp2
            go_quiet (fail)
            go_wp2
            go_roundw
            case rel => exact ⟨j + 1, nd + nq, by go_num, by omega, by show _ = _; rw [HWR.out, World.drewN_drewN]⟩
            case measure => simp [intOf]; omega
        · have bwr : Below w2.heap.size w2 wr := by rw [ew]; exact dn (rf w2) nd
          have r0 := (show wr.cell? ⟨gd, 0, none⟩ = some (.int .u32 0) by rw [ew]; exact HD0.out)
          have r1 := (show wr.cell? ⟨gd, 1, none⟩ = some (.int .i64 po) by rw [ew]; exact HD1.out)
          have r2 := (show wr.cell? ⟨gd, 2, none⟩ = some (.int .u32 to_) by rw [ew]; exact HD2.out)
          have r3 := (show wr.cell? ⟨gd, 3, none⟩ = some (.int .i64 53) by rw [ew]; exact HD3.out)
          have r4 := (show wr.cell? ⟨gd, 4, none⟩ = some (.slice (some ⟨ga, 0, none⟩) l.length k2) by rw [ew]; exact HD4.out)
          have OSr := Lib.hid (own_nx HSS.out bwr)
          have RR := Lib.hid (HR2.out.nx bwr)
          have KR := Lib.hid (HK2.out.nx bwr)
          have DR := Lib.hid (fun (x : Dg) (hx : x ∈ ds) => own_nx (HSD.out x hx) bwr)
          have YR := Lib.hid (own_nx HBY.out bwr)
          have BR := Lib.hid (B2.out.trans (bwr.mono (by omega)))
          have hzr := bwr.size
          have jk : ¬ (j : Int) < k := by omega
          have kb1 : Below wr.heap.size wr (wr.alloc (.cells #[.int .u32 0, .int .i64 po, .int .u32 to_, .int .i64 53, .slice (some ⟨ga, 0, none⟩) l.length k2] 36)) := al (rf wr) _
          clear ew hjk bwr
          go_wp2_with (at_builtin; refine app_any stDg rfl (.tmp 94) (.tmp 98) rfl w.heap.size (.slice SA k sc) k (ds.flatMap Dg.cs) rfl (OSr.out.alloc (.cells #[.int .u32 0, .int .i64 po, .int .u32 to_, .int .i64 53, .slice (some ⟨ga, 0, none⟩) l.length k2] 36)) (some ⟨wr.heap.size, 0, none⟩) 1 1 [.int .u32 0, .int .i64 po, .int .u32 to_, .int .i64 53, .slice (some ⟨ga, 0, none⟩) l.length k2] rfl (reads5 (Blk.new wr _ _) rfl) (by intro u hu; simp only [List.mem_cons, List.not_mem_nil, or_false] at hu; rcases hu with rfl | rfl | rfl | rfl | rfl <;> rfl) (by omega) (by omega) (by simp; omega) ?_; intro v9 w9 own9 gr9 at9 bel9; obtain ⟨A9, k9, rfl⟩ := own_slice own9)
          have OW2 := OSr.out.alloc (.cells #[.int .u32 0, .int .i64 po, .int .u32 to_, .int .i64 53, .slice (some ⟨ga, 0, none⟩) l.length k2] 36)
          have hz1w := kb1.size
          have kt : KeepT wr.heap.size [36] wr w9 := (KeepT.of_below kb1 (Nat.le_refl _)).trans (KeepT.of_row gr9 OW2 (.inr (by simp)) hz1w)
          have b9 : Below w.heap.size w w9 := (BR.out.trans (kb1.mono (by omega))).trans bel9
          have SN : Hid (Si w w9 Bz rb z draw (k + 1) (Qs ++ [(g, qnI draw k)]) QA2 qc2 (ds ++ [(⟨po, to_, l, some ⟨ga, 0, none⟩, k2⟩ : Dg)]) A9 k9) := by
            refine ⟨RR.out.keep kt (by decide) (by decide) (by decide) (by decide), KR.out.keep kt (by decide), ?_, ?_, fun x hx => ?_, ?_, HM.out.below b9 hpos, b9⟩
            · rw [List.map_append, S1.out.q, List.range_succ, List.map_append]; rfl
            · have hle : (ds ++ [(⟨po, to_, l, some ⟨ga, 0, none⟩, k2⟩ : Dg)]).length = k + 1 := by rw [List.length_append, HLD.out]; rfl
              rw [hle, List.flatMap_append]
              exact own9
            · rcases List.mem_append.1 hx with hx | hx
              · exact kt.own (DR.out x hx) (by decide)
              · obtain rfl := List.mem_singleton.1 hx
                exact kt.own (own_base YR.out (by omega)) (by decide)
            · rw [List.map_append, S1.out.e, List.range_succ, List.map_append, ← HL.out]; rfl
          clear own9 gr9 at9 bel9 OW2 kt b9 kb1 r0 r1 r2 r3 r4
          go_wp2
          go_roundw
          case rel => exact ⟨k + 1, _, _, _, _, A9, k9, rfl, by go_num, by omega, SN.out⟩
          case measure => simp [intOf]; omega
    · obtain rfl : k = N := by omega
      have SJ0 : Hid (Sj w wr Bz rb z k k Qs QA qc ds SA sc none 0 [] (.map [])) := by
        have hs := HS.out.s
        rw [HLD.out] at hs
        refine ⟨?_, IsKp.none_ HS.out.K HKB.out, by simp [TI], hs, HS.out.dd, HS.out.M, HS.out.be⟩
        have h := HS.out.rv
        have e : Value.slice none ([] : List (Nat × En)).length 0 = z.age := HAG.out.symm
        rw [List.take_of_length_le (by rw [HLQ.out]; exact Nat.le_refl _), e]
        exact h
      have hkk : (0 : Int) ≤ k := by omega
      go_wp2
      go_loopw [12] (fun kv ws => ∃ (i : Nat) (QA : Option Addr) (qc : Nat) (AA : Option Addr) (ac : Nat) (L : List (Nat × En)) (D : DataW Unit), kv = .int .i64 ((i : Int) - 1) ∧ i ≤ k ∧ Hid (Sj w ws Bz rb z k i Qs QA qc ds SA sc AA ac L D)) (fun kv _ => (intOf kv + 1).toNat)
      case atStart => exact ⟨k, QA, qc, none, 0, [], .map [], rfl, Nat.le_refl _, SJ0.out⟩
      case round =>
        clear SJ0
        obtain ⟨i, QA3, qc3, AA3, ac3, L3, D3, rfl, hi, HJ⟩ := hrel
        by_cases hi0 : i = 0
        · subst hi0
          have hL := congrArg List.length HJ.out.t
          rw [List.length_map, TI_len] at hL
          have hC := countC wr Bz rb _ AA3 L3.length ac3 HJ.out.rv rfl
          rw [show ({ z with sent := (k : Int), age := .slice AA3 L3.length ac3, qs := Qs.take 0, QA := QA3, qc := qc3 } : Rz).qs.length = 0 from rfl, show L3.length = k by omega] at hC
          have HC := Lib.hid hC
          have BJ := Lib.hid HJ.out.be
          have MJ := Lib.hid HJ.out.M
          have em : ((0 : Nat) : Int) - 1 = -1 := by omega
          rw [em]
          have ekk : ((k : Int) == k) = true := by simp
          clear hC hL em HJ
          go_wp2_with fail
          refine HC.out.mono ?_
          rintro e w8 ⟨rfl, b8⟩
          have B8 := Lib.hid (BJ.out.trans (b8.mono BJ.out.size))
          have M8 := Lib.hid (MJ.out.nx b8)
          clear b8 HC
          go_wp2_with fail
          refine (knownR _ M8.out (by have := B8.out.size; omega)).mono ?_
          rintro e w9 ⟨rfl, b9⟩
          have B9 := Lib.hid (B8.out.trans (b9.mono B8.out.size))
          clear b9
          go_wp2
          go_ret
          exact ⟨rfl, B9.out⟩
        obtain ⟨j, rfl⟩ : ∃ j, i = j + 1 := ⟨i - 1, by omega⟩
        have ej : ((j + 1 : Nat) : Int) - 1 = j := by omega
        rw [ej]
        have j0 : (0 : Int) ≤ j := by omega
        have j1 : (j : Int) < k := by omega
        have j20 : (j : Int) ≤ 20 := by omega
        clear hi0
        obtain ⟨d, hd, hdd⟩ := HS.out.at_ (j := j) (by omega)
        obtain ⟨sb, hSA, _, hcs⟩ := rows_own5 (f := Dg.cs) (fun _ => rfl) HJ.out.s HLD.out hd
        subst hSA
        have c4 := hcs 4 _ rfl
        have od := HJ.out.dd d (List.mem_of_getElem? hd)
        obtain ⟨id, hid⟩ : ∃ id, idV draw j = id := ⟨_, rfl⟩
        have hidr := idV_le draw j
        rw [hid] at hidr hdd
        have hNm := (nm_N (i := j) (by omega)).2.1
        have hlen := encLen id 256 ⟨nmB j, 1, 1, 0, [], none, 0⟩ none none 1 0 ⟨hNm, by show (0 : Int) ≤ 1; omega, by show (1 : Int) ≤ 65535; omega, by show (0 : Int) ≤ 1; omega, by show (1 : Int) ≤ 65535; omega⟩
        obtain ⟨l, hl⟩ : ∃ l, d.da = l := ⟨_, rfl⟩
        have hl2 : encM ⟨id, 256, [⟨nmB j, 1, 1, 0, [], none, 0⟩], [], none, none, 1, 0⟩ = l := by rw [← hl, hdd]; rfl
        rw [hl2] at hlen
        rw [hl] at od
        obtain ⟨ga, cap, hv, _, hga, hcap, _, cur, hcur, _, _⟩ := own_form od hlen.2
        injection hv with hv1 _ hv3
        have c4' : wr.cell? ⟨sb, j * 5 + 4, none⟩ = some (.slice (some ⟨ga, 0, none⟩) l.length d.k) := by
          have h := c4
          rw [hv1, hl] at h
          exact h
        have hby : Bytes wr (some ⟨ga, 0, none⟩) l := by rw [← hv1]; exact Bytes.own od
        have hcapk : l.length ≤ d.k := by rw [hv3]; exact hcap
        have HFD := Lib.hid (decC2 wr ⟨id, 256, [⟨nmB j, 1, 1, 0, [], none, 0⟩], [], none, none, 1, 0⟩ (ask_wrong hidr.1 hidr.2 (by omega) (by omega) rfl rfl hNm) (by simp) (by simp; show 1 ≤ 3000; omega) (by simp) [] l (by rw [List.append_nil, hl2]) ga 0 d.k hby (fun ad e => by injection e with e; subst e; exact ⟨cur, (0, 0), hcur⟩) (by omega) hcapk)
        have HID := Lib.hid hidr
        have HIDE := Lib.hid hid
        have HNM := Lib.hid hNm
        clear c4 od hby hcur hlen hl hl2 hv1 hv3 hidr hid hdd hd hcs hcap hNm hcapk
        go_wp2_with fail
        refine HFD.out.mono ?_
        rintro e w3 ⟨M2, ⟨he, e1, e2, e3, e4, i4, bel3⟩, hcp, oq, oa, hne⟩
        obtain ⟨id2, fl2, q2, a2, Q2, A3, n2, m2⟩ := M2
        have ea2 : a2 = [] := List.map_eq_nil_iff.1 e4
        simp only [List.map_cons, List.map_nil] at e1 e2 e3
        have e1 := e1.symm
        have e2 := e2.symm
        subst e1 e2 e3 ea2
        have he2 : e = .returned (.tuple #[.agg #[.int .i64 id, .int .i64 256, .slice Q2 1 n2, .slice A3 0 m2], .int .i64 0]) := by rw [he]; rfl
        subst he2
        have J3 := Lib.hid (HJ.out.nx bel3)
        have hz3 := bel3.size
        have hzw := HJ.out.be.size
        obtain ⟨qb, hQ, hqb, hqc⟩ := rows_own5 (l := [(⟨nmB j, 1, 1, 0, [], none, 0⟩ : Rc)]) (f := Rc.cs) (fun _ => rfl) oq rfl (i := 0) rfl
        have q0 := hqc 0 _ rfl
        rw [Nat.zero_mul] at q0
        have hQ2 : Q2 = some ⟨qb, 0, none⟩ := hQ
        subst hQ2
        have OQ := Lib.hid oq
        have MB := Blk.new w3 43 #[.int .i64 id, .int .i64 32768, .slice (some ⟨qb, 0, none⟩) 1 n2, .slice A3 0 m2]
        have kM : Below w3.heap.size w3 (w3.alloc (.cells #[.int .i64 id, .int .i64 32768, .slice (some ⟨qb, 0, none⟩) 1 n2, .slice A3 0 m2] 43)) := al (rf w3) _
        have q0' : (w3.alloc (.cells #[.int .i64 id, .int .i64 32768, .slice (some ⟨qb, 0, none⟩) 1 n2, .slice A3 0 m2] 43)).cell? ⟨qb, 0, none⟩ = some (.string (nmB j)) := (kM.cell (block_lt_of_cell q0)).trans q0
        have HMB := Lib.hid MB
        have HKM := Lib.hid kM
        have mf := ((MB.alloc (.cells #[.int .u8 0, .int .u8 0, .int .u8 0, .int .u8 (j : Int)] 5)).alloc (.cells #[.string (nmB j), .int .i64 1, .int .i64 1, .int .i64 5, .slice (some ⟨w3.heap.size + 1, 0, none⟩) 4 4] 48)).frozen 3
        have mc := ((MB.alloc (.cells #[.int .u8 0, .int .u8 0, .int .u8 0, .int .u8 (j : Int)] 5)).alloc (.cells #[.string (nmB j), .int .i64 1, .int .i64 1, .int .i64 5, .slice (some ⟨w3.heap.size + 1, 0, none⟩) 4 4] 48)).cell 3
        clear MB kM
        have hqb2 : qb < w3.heap.size := block_lt_of_cell q0
        have kX : Below w3.heap.size w3 (((w3.alloc (.cells #[.int .i64 id, .int .i64 32768, .slice (some ⟨qb, 0, none⟩) 1 n2, .slice (some ⟨w3.heap.size + 1 + 1, 0, none⟩) 1 1] 43)).alloc (.cells #[.int .u8 0, .int .u8 0, .int .u8 0, .int .u8 (j : Int)] 5)).alloc (.cells #[.string (nmB j), .int .i64 1, .int .i64 1, .int .i64 5, .slice (some ⟨w3.heap.size + 1, 0, none⟩) 4 4] 48)) := al (al (al (rf w3) _) _) _
        have hX1 : (w3.alloc (.cells #[.int .i64 id, .int .i64 32768, .slice (some ⟨qb, 0, none⟩) 1 n2, .slice (some ⟨w3.heap.size + 1 + 1, 0, none⟩) 1 1] 43)).heap.size = w3.heap.size + 1 := by simp
        have hX2 : ((w3.alloc (.cells #[.int .i64 id, .int .i64 32768, .slice (some ⟨qb, 0, none⟩) 1 n2, .slice (some ⟨w3.heap.size + 1 + 1, 0, none⟩) 1 1] 43)).alloc (.cells #[.int .u8 0, .int .u8 0, .int .u8 0, .int .u8 (j : Int)] 5)).heap.size = w3.heap.size + 1 + 1 := by simp
        have FX : Fm w (((w3.alloc (.cells #[.int .i64 id, .int .i64 32768, .slice (some ⟨qb, 0, none⟩) 1 n2, .slice (some ⟨w3.heap.size + 1 + 1, 0, none⟩) 1 1] 43)).alloc (.cells #[.int .u8 0, .int .u8 0, .int .u8 0, .int .u8 (j : Int)] 5)).alloc (.cells #[.string (nmB j), .int .i64 1, .int .i64 1, .int .i64 5, .slice (some ⟨w3.heap.size + 1, 0, none⟩) 4 4] 48)) w.heap.size w3.heap.size id 32768 ⟨nmB j, 1, 1, 0, [], none, 0⟩ (some ⟨qb, 0, none⟩) n2 [(⟨nmB j, 1, 1, 5, b4 (j : Int), some ⟨w3.heap.size + 1, 0, none⟩, 4⟩ : Rc)] (some ⟨w3.heap.size + 1 + 1, 0, none⟩) 1 := by
          refine ⟨((Blk.new w3 _ _).alloc _).alloc _, own_base (own_nx OQ.out kX) hzw, ?_, fun i h1 h2 => ?_, fun r hr => ?_, fun r hr => ?_, by omega, J3.out.be.trans (kX.mono (by omega))⟩
          · exact own_lit ((w3.alloc (.cells #[.int .i64 id, .int .i64 32768, .slice (some ⟨qb, 0, none⟩) 1 n2, .slice (some ⟨w3.heap.size + 1 + 1, 0, none⟩) 1 1] 43)).alloc (.cells #[.int .u8 0, .int .u8 0, .int .u8 0, .int .u8 (j : Int)] 5)) #[.string (nmB j), .int .i64 1, .int .i64 1, .int .i64 5, .slice (some ⟨w3.heap.size + 1, 0, none⟩) 4 4] 1 hX2.symm (by omega) (by unfold maxLen; omega) rfl
          · have h3 : qb = i := Option.some.inj h1
            have h4 : w3.heap.size + 1 + 1 = i := Option.some.inj h2
            omega
          · obtain rfl := List.mem_singleton.1 hr
            show World.ownsRow _ _ _ 1 (.slice (some ⟨w3.heap.size + 1, 0, none⟩) 4 4) 4 (Lib.byteCells (b4 (j : Int)))
            rw [b4_small j (by omega)]
            exact (own_lit (w3.alloc (.cells #[.int .i64 id, .int .i64 32768, .slice (some ⟨qb, 0, none⟩) 1 n2, .slice (some ⟨w3.heap.size + 1 + 1, 0, none⟩) 1 1] 43)) #[.int .u8 0, .int .u8 0, .int .u8 0, .int .u8 (j : Int)] 4 hX1.symm (by omega) (by unfold maxLen; omega) rfl).alloc _
          · obtain rfl := List.mem_singleton.1 hr
            exact ⟨by show 4 ≤ 3000; omega, by show 1 ≤ 3000; omega⟩
        have hga : ∀ r ∈ [(⟨nmB j, 1, 1, 5, b4 (j : Int), some ⟨w3.heap.size + 1, 0, none⟩, 4⟩ : Rc)], GoodA r := fun r hr => by
          obtain rfl := List.mem_singleton.1 hr
          exact ⟨rfl, ⟨by show (0 : Int) ≤ 5; omega, by show (5 : Int) ≤ 2147483647; omega⟩, HNM.out, .inl ⟨rfl, rfl⟩⟩
        have hzM : wrongI ⟨id, 32768, [⟨nmB j, 1, 1, 0, [], none, 0⟩], [(⟨nmB j, 1, 1, 5, b4 (j : Int), some ⟨w3.heap.size + 1, 0, none⟩, 4⟩ : Rc)], some ⟨qb, 0, none⟩, some ⟨w3.heap.size + 1 + 1, 0, none⟩, n2, 1⟩ = 0 := good_wrong HID.out.1 HID.out.2 (by omega) (by omega) rfl rfl HNM.out hga (by show 1 ≤ 64; omega)
        have JX := Lib.hid (J3.out.nx kX)
        have HE := Lib.hid (encD (((w3.alloc (.cells #[.int .i64 id, .int .i64 32768, .slice (some ⟨qb, 0, none⟩) 1 n2, .slice (some ⟨w3.heap.size + 1 + 1, 0, none⟩) 1 1] 43)).alloc (.cells #[.int .u8 0, .int .u8 0, .int .u8 0, .int .u8 (j : Int)] 5)).alloc (.cells #[.string (nmB j), .int .i64 1, .int .i64 1, .int .i64 5, .slice (some ⟨w3.heap.size + 1, 0, none⟩) 4 4] 48)) ⟨id, 32768, [⟨nmB j, 1, 1, 0, [], none, 0⟩], [(⟨nmB j, 1, 1, 5, b4 (j : Int), some ⟨w3.heap.size + 1, 0, none⟩, 4⟩ : Rc)], some ⟨qb, 0, none⟩, some ⟨w3.heap.size + 1 + 1, 0, none⟩, n2, 1⟩ (FX.is (by show 1 ≤ 3000; omega) (by show 1 ≤ 3000; omega) rfl) hzM JX.out.M)
        have HSZ := Lib.hid FX.sz
        have HZM := Lib.hid hzM
        clear he e4 i4 bel3 HFD hcp oa hne oq hqc c4' FX hga hzM kX
        go_wp2_with fail
        generalize (((w3.alloc (.cells #[.int .i64 id, .int .i64 32768, .slice (some ⟨qb, 0, none⟩) 1 n2, .slice (some ⟨w3.heap.size + 1 + 1, 0, none⟩) 1 1] 43)).alloc (.cells #[.int .u8 0, .int .u8 0, .int .u8 0, .int .u8 (j : Int)] 5)).alloc (.cells #[.string (nmB j), .int .i64 1, .int .i64 1, .int .i64 5, .slice (some ⟨w3.heap.size + 1, 0, none⟩) 4 4] 48)) = w4 at HE JX ⊢
        refine HE.out.mono ?_
        rintro e w5 ⟨ga2, c2, rfl, by5, ty5, l1, l2, b5⟩
        obtain ⟨l5, hl5⟩ : ∃ l5, encM ⟨id, 32768, [⟨nmB j, 1, 1, 0, [], none, 0⟩], [(⟨nmB j, 1, 1, 5, b4 (j : Int), some ⟨w3.heap.size + 1, 0, none⟩, 4⟩ : Rc)], some ⟨qb, 0, none⟩, some ⟨w3.heap.size + 1 + 1, 0, none⟩, n2, 1⟩ = l5 := ⟨_, rfl⟩
        rw [hl5] at by5 l1 l2 ⊢
        have J5 := Lib.hid (JX.out.nx b5)
        obtain ⟨g, hg⟩ := HS.out.take (j := j) (by omega)
        have hzb : Bz ≤ w5.heap.size := by have h1 := J5.out.rv.lo; have h2 := J5.out.rv.b.lt; omega
        have HH := Lib.hid (hearKeepL w5 Bz rb g { z with sent := (k : Int), age := .slice AA3 L3.length ac3, qs := Qs.take (j + 1), QA := QA3, qc := qc3 } (Qs.take j) (qnI draw j) ⟨id, 32768, [⟨nmB j, 1, 1, 0, [], none, 0⟩], [(⟨nmB j, 1, 1, 5, b4 (j : Int), some ⟨w3.heap.size + 1, 0, none⟩, 4⟩ : Rc)], some ⟨qb, 0, none⟩, some ⟨w3.heap.size + 1 + 1, 0, none⟩, n2, 1⟩ ⟨nmB j, 1, 1, 0, [], none, 0⟩ 5 0 1 0 0 l5 ga2 c2 AA3 ac3 L3 D3 (TI k (k - j)) J5.out.rv (by show Qs.take (j + 1) = _; exact hg) (by rw [List.length_take]; omega) (fun p hp => by rw [← HIDE.out]; exact HS.out.ids (by omega) (by omega) p hp) J5.out.M hzb (by omega) HZM.out (fun r hr => (HSZ.out r hr).1) (fun r hr => (HSZ.out r hr).2) rfl rfl rfl (by show 1 ≤ 3000; omega) hl5.symm by5 ty5 (by omega) l2
          (by show bits .and .i64 32768 32768 = 32768; decide +kernel) (by show bits .and .i64 32768 15 = 0; decide +kernel) (by show idV draw j = id; exact HIDE.out) (Int.le_refl 0) (by show (0 : Int) < z.sv.length; rw [HSV.out]; decide) (by show (5 : Int) = svAt z 0; unfold svAt; rw [HSV.out]; rfl) (beq_self_eq_true _) (by show 1 ≤ 3000; omega) 9 HPO.out.symm rfl rfl J5.out.K
          (by show _ ++ keepL 1 [] [(⟨nmB j, 1, 1, 5, b4 (j : Int), some ⟨w3.heap.size + 1, 0, none⟩, 4⟩ : Rc)] = _; rw [J5.out.t, keep_I (j := j) (by omega) (r := (⟨nmB j, 1, 1, 5, b4 (j : Int), some ⟨w3.heap.size + 1, 0, none⟩, 4⟩ : Rc)) rfl]; exact TI_next (by omega)) (pair_I (by omega) (by omega)) (by rw [TI_len]; omega)
          (fun L' h => by
            obtain ⟨h1, h2⟩ := chase_J (by omega) (by omega) h
            exact ⟨h1, 0, [(j : Int)], nmB j, 0, h2⟩) (fun p hp h => by rw [(ent_I p hp).1] at h; cases h) (fun p hp => by rw [(ent_I p hp).2]; omega) (Int.le_refl 0) (by show (0 : Int) ≤ 8; omega) HNM.out (by rw [HSV.out]; decide) (by rw [HSV.out]; decide) (by omega) (by omega) (by show (0 : Int) ≤ k; omega) (by show (k : Int) ≤ _; omega))
        have hz5 := b5.size
        clear by5 ty5 b5 HE hl5 mf mc q0' q0 JX
        go_wp2_with fail
        refine HH.out.mono ?_
        rintro e w7 ⟨AA7, ac7, L7, D7, err, ads, nm, fo, A7, k7, QA7, qc7, FA, fc, rfl, ht7, hc7, R7, K7, own7, ad7, kt7, b7⟩
        have hce := (chase_J (by omega) (by omega) ht7).2
        have hc8 : chase L7 1 9 (nmB j) 0 = (some (err, ads), nm, fo) := hc7
        rw [hc8] at hce
        have he9 : some (err, ads) = some ((0 : Int), [(j : Int)]) := congrArg Prod.fst hce
        injection he9 with he9
        injection he9 with he1 he2
        subst he1 he2
        obtain ⟨gf, rfl, _, hcf⟩ := row3f (d := ⟨nmB j, 0, [(j : Int)], A7, k7⟩) (show w7.ownsRow w5.heap.size 39 3 (.slice FA 1 fc) 1 _ from own7)
        have u0 := hcf 0 _ rfl
        have u2 := hcf 2 _ rfl
        obtain ⟨ad1, v1, hA1, _, hv1, hc1⟩ := (Reads.of_own ad7).at_ (k := 0) (by simp)
        have ev : v1 = .int .u32 (j : Int) := by simpa using hv1.symm
        subst ev hA1
        have hz0 : ad1.add 0 = ad1 := by simp [Addr.add]
        rw [hz0] at hc1
        replace u2 : w7.cell? ⟨gf, 2, none⟩ = some (.slice (some ad1) 1 k7) := u2
        have hw5 : w.heap.size ≤ w5.heap.size := J5.out.be.size
        have J7 : Hid (Sj w w7 Bz rb z k j Qs QA7 qc7 ds (some ⟨sb, 0, none⟩) sc AA7 ac7 L7 D7) := ⟨R7, K7, ht7, kt7.own J5.out.s (by decide), fun x hx => kt7.own (J5.out.dd x hx) (by decide), J5.out.M.below b7 (by omega), J5.out.be.trans (b7.mono (by omega))⟩
        have hz7 := b7.size
        clear ht7 hc7 hc8 R7 K7 own7 ad7 kt7 b7 hcf hce hv1 hz0 HH
        have hcv : (convert 34 9 (.slice (some ⟨w7.heap.size, 0, none⟩) 1 1)).run Tryd.prog (w7.alloc (.cells #[.int .u8 (97 + (j : Int))] 5)).drew = .ok (.string (nmB j)) (w7.alloc (.cells #[.int .u8 (97 + (j : Int))] 5)).drew := conv_nm (by omega) (show Blk (w7.alloc (.cells #[.int .u8 (97 + (j : Int))] 5)) w7.heap.size 5 #[.int .u8 (97 + (j : Int))] from Blk.new w7 _ _).drew
        have bw : Below w7.heap.size w7 (w7.alloc (.cells #[.int .u8 (97 + (j : Int))] 5)).drew := (al (rf w7) _).drew
        have hgf7 := block_lt_of_cell u0
        have had7 := block_lt_of_cell hc1
        have u0' : (w7.alloc (.cells #[.int .u8 (97 + (j : Int))] 5)).drew.cell? ⟨gf, 0, none⟩ = some (.string (nmB j)) := (bw.cell hgf7).trans u0
        have u2' : (w7.alloc (.cells #[.int .u8 (97 + (j : Int))] 5)).drew.cell? ⟨gf, 2, none⟩ = some (.slice (some ad1) 1 k7) := (bw.cell (p := ⟨gf, 2, none⟩) hgf7).trans u2
        have hc1' : (w7.alloc (.cells #[.int .u8 (97 + (j : Int))] 5)).drew.cell? ad1 = some (.int .u32 (j : Int)) := (bw.cell had7).trans hc1
        have u0d : w7.drew.cell? ⟨gf, 0, none⟩ = some (.string (nmB j)) := u0
        have u2d : w7.drew.cell? ⟨gf, 2, none⟩ = some (.slice (some ad1) 1 k7) := u2
        have hc1d : w7.drew.cell? ad1 = some (.int .u32 (j : Int)) := hc1
        obtain ⟨hw1, hw2, hw3, hjj⟩ := wraps_j (j := j) (by omega)
        have JN := Lib.hid (J7.out.nx bw)
        clear bw hgf7 had7
        go_wp2
        go_big_region
        go_wp2
        go_roundw
        case rel => exact ⟨j, QA7, qc7, AA7, ac7, L7, D7, by go_num, by omega, JN.out⟩
        case measure => simp [intOf]
end
end Go.Proofs.YtpfkmmmlocmakaaDoor
