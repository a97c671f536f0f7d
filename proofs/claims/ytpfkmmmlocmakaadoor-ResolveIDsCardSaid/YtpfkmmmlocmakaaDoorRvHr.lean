/-
  Resolve: Hear of a refusal that answers the one question there is.
-/
import Derived.Test.YtpfkmmmlocmakaaDoorRvOf
set_option linter.unusedVariables false
namespace Go.Proofs.YtpfkmmmlocmakaaDoor
open Go.RowKit Go.Maps

set_option maxRecDepth 100000 in
set_option maxHeartbeats 3200000 in
theorem hearNone (w : World) (B rb g : Nat) (z : Rz) (q : Qn) (M : Ms) (x : Rc) (fr to_ now draw code : Int) (l : List UInt8) (ga c : Nat) (hR : IsRv w B rb z) (hqs : z.qs = [(g, q)]) (hm : MaxL w) (hB : B ≤ w.heap.size) (hB0 : 0 < B)
    (hz : wrongI M = 0) (hMa : M.a = []) (hMq : M.q = [x]) (ht : x.t = 1) (hc : x.c = 1) (hxn : x.nm.size ≤ 3000) (hl : l = encM M) (hb : Bytes w (some ⟨ga, 0, none⟩) l) (hty : RowTy w (some ⟨ga, 0, none⟩)) (hll : l.length ≤ 1000000) (hlc : l.length ≤ c)
    (hf1 : bits .and .i64 M.fl 32768 = 32768) (hf2 : bits .and .i64 M.fl 15 = code) (hid : q.id = M.id) (s0 : 0 ≤ q.server) (s1 : q.server < z.sv.length) (hfr : fr = svAt z q.server) (hnm : (low q.name == low x.nm) = true) (hns : q.name.size ≤ 3000) (top : Int) (htop : top = z.port) (hcode : code = 3) :
    Calls Tryd.prog 16 #[.pointer (some ⟨rb, 0, none⟩), .agg #[.int .u32 fr, .int .i64 53, .int .u32 to_, .int .i64 top, .slice (some ⟨ga, 0, none⟩) l.length c], .int .i64 now, .int .i64 draw] w fun e w' => ∃ (QA : Option Addr) (qc : Nat), HandP w B rb { z with qs := [], QA := QA, qc := qc } [⟨q.first, 7, [], none, 0⟩] [] e w' := by
  subst htop
  have b1 : Below w.heap.size w (w.alloc (.cells #[.int .u32 fr, .int .i64 53, .int .u32 to_, .int .i64 z.port, .slice (some ⟨ga, 0, none⟩) l.length c] 36)) := al (rf w) _
  have DB := Blk.new w 36 #[.int .u32 fr, .int .i64 53, .int .u32 to_, .int .i64 z.port, .slice (some ⟨ga, 0, none⟩) l.length c]
  have R1 := hR.nx b1
  have r1 := R1.b.cell 1
  have d1 := DB.cell 1
  have d3 := DB.cell 3
  have d4 := DB.cell 4
  simp only [Rz.cs, List.getElem?_toArray, List.getElem?_cons_zero, List.getElem?_cons_succ] at r1 d1 d3 d4
  have hw0 : 0 < w.heap.size := by omega
  have HDEC : Hid (∀ w2, Below w.heap.size w w2 → Calls Tryd.prog 13 #[.slice (some ⟨ga, 0, none⟩) l.length c] w2 (DecP M w2)) := fun w2 h2 =>
    decC w2 M hz (by rw [hMa]; simp) (by rw [hMq]; simp; exact hxn) (by rw [hMa]; simp) [] l (by rw [List.append_nil]; exact hl) ga 0 c (hb.nx h2) (hty.nx h2) hll hlc
  have hpp : (z.port != z.port) = false := by simp
  have HR := Lib.hid hR
  have HM := Lib.hid hm
  have HQS := Lib.hid hqs
  have B1 := Lib.hid b1
  have DB1 := Lib.hid DB
  have HMA := Lib.hid hMa
  have HMQ := Lib.hid hMq
  have HT := Lib.hid ht
  have HCC := Lib.hid hc
  have HF1 := Lib.hid hf1
  have HF2 := Lib.hid hf2
  have HID := Lib.hid hid
  have HFR := Lib.hid hfr
  have HNM := Lib.hid hnm
  clear hR hqs hm b1 DB R1 hz hMa hMq ht hc hl hb hty hf1 hf2 hid hfr hnm
  go_enter Tryd.func16, Tryd.ntmps16
  go_wp2
  go_quiet (fail)
  generalize hwd : (w.alloc (.cells #[.int .u32 fr, .int .i64 53, .int .u32 to_, .int .i64 z.port, .slice (some ⟨ga, 0, none⟩) l.length c] 36)) = w1 at B1 DB1 r1 d1 d3 d4 ⊢
  have HWD := Lib.hid hwd
  clear hwd
  go_wp2_with fail
  refine (HDEC.out _ (dn B1.out _)).mono ?_
  rintro e w3 ⟨M2, he, e1, e2, e3, e4, i4, b4⟩
  obtain ⟨id2, fl2, q2, a2, Q2, A2, n2, m2⟩ := M2
  have ea2 : a2 = [] := by
    rw [HMA.out] at e4
    exact List.map_eq_nil_iff.1 e4
  rw [HMQ.out] at e3
  simp only [List.map_cons, List.map_nil] at e1 e2 e3
  have e1 := e1.symm
  have e2 := e2.symm
  subst e1 e2 e3 ea2
  have he2 : e = .returned (.tuple #[.agg #[.int .i64 M.id, .int .i64 M.fl, .slice Q2 1 n2, .slice A2 0 m2], .int .i64 0]) := by rw [he]; rfl
  subst he2
  have B3 := Lib.hid (nx (dn B1.out _) b4)
  have I3 := Lib.hid (i4 w3 (Nat.le_refl _) (fun _ _ _ => rfl))
  have DB3 := Lib.hid (DB1.out.nx (nx (dn (rf w1) _) b4))
  have kM : Below w3.heap.size w3 (w3.alloc (.cells #[.int .i64 M.id, .int .i64 M.fl, .slice Q2 1 n2, .slice A2 0 m2] 43)) := al (rf w3) _
  have B5 := Lib.hid (nx B3.out kM)
  have I5 := Lib.hid (I3.out.nx kM)
  have DB5 := Lib.hid (DB3.out.nx kM)
  have MB5 := Lib.hid (Blk.new w3 43 #[.int .i64 M.id, .int .i64 M.fl, .slice Q2 1 n2, .slice A2 0 m2])
  have R5 := Lib.hid (HR.out.nx B5.out)
  have x0 := DB5.out.cell 0
  have x1 := DB5.out.cell 1
  have x2 := DB5.out.cell 2
  have x3 := DB5.out.cell 3
  have x4 := DB5.out.cell 4
  have y0 := MB5.out.cell 0
  have y1 := MB5.out.cell 1
  have y2 := MB5.out.cell 2
  have y3 := MB5.out.cell 3
  simp only [List.getElem?_toArray, List.getElem?_cons_zero, List.getElem?_cons_succ] at x0 x1 x2 x3 x4 y0 y1 y2 y3
  have hfb : (bits .and .i64 M.fl 32768 == 0) = false := by rw [HF1.out]; rfl
  have HOF := Lib.hid (ofC1 (w3.alloc (.cells #[.int .i64 M.id, .int .i64 M.fl, .slice Q2 1 n2, .slice A2 0 m2] 43)) B rb g z q ⟨M.id, M.fl, [rqZ x], [], Q2, A2, n2, m2⟩ fr 53 to_ z.port (some ⟨ga, 0, none⟩) l.length c (rqZ x) R5.out HQS.out I5.out rfl HT.out HCC.out HID.out s0 s1 HFR.out HNM.out hns hxn)
  clear he e4 i4 b4 kM r1 d1 d3 d4 HDEC B1 DB1 DB3 I3 HWD
  go_wp2_with fail
  generalize (w3.alloc (.cells #[.int .i64 M.id, .int .i64 M.fl, .slice Q2 1 n2, .slice A2 0 m2] 43)) = w5 at B5 I5 DB5 MB5 R5 x0 x1 x2 x3 x4 y0 y1 y2 y3 HOF ⊢
  refine HOF.out.mono ?_
  rintro e w6 ⟨rfl, b6⟩
  have B6 := Lib.hid (nx B5.out b6)
  have R6 := Lib.hid (R5.out.nx b6)
  have MB6 := Lib.hid (MB5.out.nx b6)
  have yy1 := (MB6.out.alloc (.cells #[.pointer (some ⟨rb, 0, none⟩), .int .i64 now, .int .i64 draw, .slice none 0 0, .slice none 0 0] 71)).cell 1
  simp only [List.getElem?_toArray, List.getElem?_cons_zero, List.getElem?_cons_succ] at yy1
  have kW : Below w6.heap.size w6 (w6.alloc (.cells #[.pointer (some ⟨rb, 0, none⟩), .int .i64 now, .int .i64 draw, .slice none 0 0, .slice none 0 0] 71)) := al (rf w6) _
  have WB7 := Blk.new w6 71 #[.pointer (some ⟨rb, 0, none⟩), .int .i64 now, .int .i64 draw, .slice none 0 0, .slice none 0 0]
  have B7 := Lib.hid (nx B6.out kW)
  have R7 := Lib.hid (R6.out.nx kW)
  have hz6 := B6.out.size
  have W7 : Hid (IsWk (w6.alloc (.cells #[.pointer (some ⟨rb, 0, none⟩), .int .i64 now, .int .i64 draw, .slice none 0 0, .slice none 0 0] 71)) w.heap.size w6.heap.size rb now draw [] none 0 [] none 0) := ⟨WB7, hz6, World.ownsRow_nil _ _ _ _, World.ownsRow_nil _ _ _ _, by simp, by simp⟩
  have M7 := Lib.hid (HM.out.below B7.out hw0)
  have hz7 := B7.out.size
  have hf2 := HF2.out
  rw [hcode] at hf2
  have HOV := Lib.hid (endsC1 _ B w.heap.size w6.heap.size rb g z now draw [] none 0 [] none 0 q 7 R7.out W7.out HQS.out (by simp) hB hz7)
  clear hcode
  clear b6 kW WB7 x0 x1 x2 x3 x4 y0 y1 y2 y3 HOF hfb
  go_wp2_with fail
  refine HOV.out.mono ?_
  rintro e w8 ⟨rfl, F8, f8, Q8, c8, Rd, Wd, K5, N5, Bd⟩
  have Kd : KeepT w.heap.size [68, 64, 66] _ w8 := N5.mono (by decide)
  clear N5
  have y3 := Wd.b.cell 3
  have y4 := Wd.b.cell 4
  simp only [List.getElem?_toArray, List.getElem?_cons_zero, List.getElem?_cons_succ] at y3 y4
  have HWd := Lib.hid Wd
  have HRd := Lib.hid Rd
  have HKd := Lib.hid Kd
  have HBd := Lib.hid Bd
  have hzd := Bd.size
  clear Wd Rd Kd Bd HOV K5 yy1
  go_wp2
  go_quiet (fail)
  go_wp2
  go_ret2
  have kk : ∀ nq, KeepT w.heap.size [68, 64, 66] w (w8.drewN nq) := fun nq => ((KeepT.of_below B7.out (Nat.le_refl _)).trans HKd.out).trans (KeepT.of_below (dn (rf w8) nq) (by omega))
  have kb := fun nq => ((B7.out.mono hB).trans HBd.out).trans ((dn (rf w8) nq).mono (by omega))
  exact ⟨Q8, c8, _, _, _, _, rfl, HRd.out.nx (dn (rf w8) _), own_nx HWd.out.f (dn (rf w8) _), own_nx HWd.out.d (dn (rf w8) _), fun x hx => own_nx (HWd.out.fd x hx) (dn (rf w8) _), fun x hx => own_nx (HWd.out.dd x hx) (dn (rf w8) _), kk _, kb _⟩
set_option maxRecDepth 100000 in
set_option maxHeartbeats 3200000 in
theorem hearOver (w : World) (B rb g : Nat) (z : Rz) (q : Qn) (M : Ms) (x : Rc) (fr to_ now draw code : Int) (l : List UInt8) (ga c : Nat) (hR : IsRv w B rb z) (hqs : z.qs = [(g, q)]) (hm : MaxL w) (hB : B ≤ w.heap.size) (hB0 : 0 < B)
    (hz : wrongI M = 0) (hMa : M.a = []) (hMq : M.q = [x]) (ht : x.t = 1) (hc : x.c = 1) (hxn : x.nm.size ≤ 3000) (hl : l = encM M) (hb : Bytes w (some ⟨ga, 0, none⟩) l) (hty : RowTy w (some ⟨ga, 0, none⟩)) (hll : l.length ≤ 1000000) (hlc : l.length ≤ c)
    (hf1 : bits .and .i64 M.fl 32768 = 32768) (hf2 : bits .and .i64 M.fl 15 = code) (hid : q.id = M.id) (s0 : 0 ≤ q.server) (s1 : q.server < z.sv.length) (hfr : fr = svAt z q.server) (hnm : (low q.name == low x.nm) = true) (hns : q.name.size ≤ 3000) (top : Int) (htop : top = z.port) (hcode : code ≠ 3 ∧ code ≠ 0) (s : Int) (hs : s = (q.server + 1) % z.sv.length) (hn : isN q.name.data.toList = true) (hsv : z.sv.length ≤ 3) (n0 : 0 ≤ now) (n1 : now ≤ 1152921504606846976) (a0 : 0 ≤ q.asked) (a1 : q.asked < 4) (ee0 : 0 ≤ z.sent) (ee1 : z.sent ≤ 1152921504606846976) :
    Calls Tryd.prog 16 #[.pointer (some ⟨rb, 0, none⟩), .agg #[.int .u32 fr, .int .i64 53, .int .u32 to_, .int .i64 top, .slice (some ⟨ga, 0, none⟩) l.length c], .int .i64 now, .int .i64 draw] w fun e w' => ∃ (A : Option Addr) (k : Nat), HandP w B rb { z with sent := z.sent + 1, qs := [(g, (q.srv s).ask (idV draw z.sent) now)] } [] [⟨z.port, svAt z s, askB (idV draw z.sent) q.name, A, k⟩] e w' := by
  subst htop
  have b1 : Below w.heap.size w (w.alloc (.cells #[.int .u32 fr, .int .i64 53, .int .u32 to_, .int .i64 z.port, .slice (some ⟨ga, 0, none⟩) l.length c] 36)) := al (rf w) _
  have DB := Blk.new w 36 #[.int .u32 fr, .int .i64 53, .int .u32 to_, .int .i64 z.port, .slice (some ⟨ga, 0, none⟩) l.length c]
  have R1 := hR.nx b1
  have r1 := R1.b.cell 1
  have d1 := DB.cell 1
  have d3 := DB.cell 3
  have d4 := DB.cell 4
  simp only [Rz.cs, List.getElem?_toArray, List.getElem?_cons_zero, List.getElem?_cons_succ] at r1 d1 d3 d4
  have hw0 : 0 < w.heap.size := by omega
  have HDEC : Hid (∀ w2, Below w.heap.size w w2 → Calls Tryd.prog 13 #[.slice (some ⟨ga, 0, none⟩) l.length c] w2 (DecP M w2)) := fun w2 h2 =>
    decC w2 M hz (by rw [hMa]; simp) (by rw [hMq]; simp; exact hxn) (by rw [hMa]; simp) [] l (by rw [List.append_nil]; exact hl) ga 0 c (hb.nx h2) (hty.nx h2) hll hlc
  have hpp : (z.port != z.port) = false := by simp
  have HR := Lib.hid hR
  have HM := Lib.hid hm
  have HQS := Lib.hid hqs
  have B1 := Lib.hid b1
  have DB1 := Lib.hid DB
  have HMA := Lib.hid hMa
  have HMQ := Lib.hid hMq
  have HT := Lib.hid ht
  have HCC := Lib.hid hc
  have HF1 := Lib.hid hf1
  have HF2 := Lib.hid hf2
  have HID := Lib.hid hid
  have HFR := Lib.hid hfr
  have HNM := Lib.hid hnm
  clear hR hqs hm b1 DB R1 hz hMa hMq ht hc hl hb hty hf1 hf2 hid hfr hnm
  go_enter Tryd.func16, Tryd.ntmps16
  go_wp2
  go_quiet (fail)
  generalize hwd : (w.alloc (.cells #[.int .u32 fr, .int .i64 53, .int .u32 to_, .int .i64 z.port, .slice (some ⟨ga, 0, none⟩) l.length c] 36)) = w1 at B1 DB1 r1 d1 d3 d4 ⊢
  have HWD := Lib.hid hwd
  clear hwd
  go_wp2_with fail
  refine (HDEC.out _ (dn B1.out _)).mono ?_
  rintro e w3 ⟨M2, he, e1, e2, e3, e4, i4, b4⟩
  obtain ⟨id2, fl2, q2, a2, Q2, A2, n2, m2⟩ := M2
  have ea2 : a2 = [] := by
    rw [HMA.out] at e4
    exact List.map_eq_nil_iff.1 e4
  rw [HMQ.out] at e3
  simp only [List.map_cons, List.map_nil] at e1 e2 e3
  have e1 := e1.symm
  have e2 := e2.symm
  subst e1 e2 e3 ea2
  have he2 : e = .returned (.tuple #[.agg #[.int .i64 M.id, .int .i64 M.fl, .slice Q2 1 n2, .slice A2 0 m2], .int .i64 0]) := by rw [he]; rfl
  subst he2
  have B3 := Lib.hid (nx (dn B1.out _) b4)
  have I3 := Lib.hid (i4 w3 (Nat.le_refl _) (fun _ _ _ => rfl))
  have DB3 := Lib.hid (DB1.out.nx (nx (dn (rf w1) _) b4))
  have kM : Below w3.heap.size w3 (w3.alloc (.cells #[.int .i64 M.id, .int .i64 M.fl, .slice Q2 1 n2, .slice A2 0 m2] 43)) := al (rf w3) _
  have B5 := Lib.hid (nx B3.out kM)
  have I5 := Lib.hid (I3.out.nx kM)
  have DB5 := Lib.hid (DB3.out.nx kM)
  have MB5 := Lib.hid (Blk.new w3 43 #[.int .i64 M.id, .int .i64 M.fl, .slice Q2 1 n2, .slice A2 0 m2])
  have R5 := Lib.hid (HR.out.nx B5.out)
  have x0 := DB5.out.cell 0
  have x1 := DB5.out.cell 1
  have x2 := DB5.out.cell 2
  have x3 := DB5.out.cell 3
  have x4 := DB5.out.cell 4
  have y0 := MB5.out.cell 0
  have y1 := MB5.out.cell 1
  have y2 := MB5.out.cell 2
  have y3 := MB5.out.cell 3
  simp only [List.getElem?_toArray, List.getElem?_cons_zero, List.getElem?_cons_succ] at x0 x1 x2 x3 x4 y0 y1 y2 y3
  have hfb : (bits .and .i64 M.fl 32768 == 0) = false := by rw [HF1.out]; rfl
  have HOF := Lib.hid (ofC1 (w3.alloc (.cells #[.int .i64 M.id, .int .i64 M.fl, .slice Q2 1 n2, .slice A2 0 m2] 43)) B rb g z q ⟨M.id, M.fl, [rqZ x], [], Q2, A2, n2, m2⟩ fr 53 to_ z.port (some ⟨ga, 0, none⟩) l.length c (rqZ x) R5.out HQS.out I5.out rfl HT.out HCC.out HID.out s0 s1 HFR.out HNM.out hns hxn)
  clear he e4 i4 b4 kM r1 d1 d3 d4 HDEC B1 DB1 DB3 I3 HWD
  go_wp2_with fail
  generalize (w3.alloc (.cells #[.int .i64 M.id, .int .i64 M.fl, .slice Q2 1 n2, .slice A2 0 m2] 43)) = w5 at B5 I5 DB5 MB5 R5 x0 x1 x2 x3 x4 y0 y1 y2 y3 HOF ⊢
  refine HOF.out.mono ?_
  rintro e w6 ⟨rfl, b6⟩
  have B6 := Lib.hid (nx B5.out b6)
  have R6 := Lib.hid (R5.out.nx b6)
  have MB6 := Lib.hid (MB5.out.nx b6)
  have yy1 := (MB6.out.alloc (.cells #[.pointer (some ⟨rb, 0, none⟩), .int .i64 now, .int .i64 draw, .slice none 0 0, .slice none 0 0] 71)).cell 1
  simp only [List.getElem?_toArray, List.getElem?_cons_zero, List.getElem?_cons_succ] at yy1
  have kW : Below w6.heap.size w6 (w6.alloc (.cells #[.pointer (some ⟨rb, 0, none⟩), .int .i64 now, .int .i64 draw, .slice none 0 0, .slice none 0 0] 71)) := al (rf w6) _
  have WB7 := Blk.new w6 71 #[.pointer (some ⟨rb, 0, none⟩), .int .i64 now, .int .i64 draw, .slice none 0 0, .slice none 0 0]
  have B7 := Lib.hid (nx B6.out kW)
  have R7 := Lib.hid (R6.out.nx kW)
  have hz6 := B6.out.size
  have W7 : Hid (IsWk (w6.alloc (.cells #[.pointer (some ⟨rb, 0, none⟩), .int .i64 now, .int .i64 draw, .slice none 0 0, .slice none 0 0] 71)) w.heap.size w6.heap.size rb now draw [] none 0 [] none 0) := ⟨WB7, hz6, World.ownsRow_nil _ _ _ _, World.ownsRow_nil _ _ _ _, by simp, by simp⟩
  have M7 := Lib.hid (HM.out.below B7.out hw0)
  have hz7 := B7.out.size
  have hf2 := HF2.out
  have hc3 : (code == 3) = false := by rw [beq_eq_false_iff_ne]; exact hcode.1
  have hc0 : (code == 0) = false := by rw [beq_eq_false_iff_ne]; exact hcode.2
  have HOV := Lib.hid (overA _ B w.heap.size w6.heap.size rb g z now draw [] none 0 [] none 0 q s R7.out W7.out HQS.out M7.out hs hn hns s0 s1 hsv n0 n1 a0 a1 ee0 ee1 (by simp) hB hz7)
  clear hs hcode
  clear b6 kW WB7 x0 x1 x2 x3 x4 y0 y1 y2 y3 HOF hfb
  go_wp2_with fail
  refine HOV.out.mono ?_
  rintro e w8 ⟨rfl, A8, k8, D8, d8, Rd, Wd, K5, N5, Bd⟩
  have Kd : KeepT w.heap.size [68, 64, 66] _ w8 := N5.mono (by decide)
  clear N5
  have y3 := Wd.b.cell 3
  have y4 := Wd.b.cell 4
  simp only [List.getElem?_toArray, List.getElem?_cons_zero, List.getElem?_cons_succ] at y3 y4
  have HWd := Lib.hid Wd
  have HRd := Lib.hid Rd
  have HKd := Lib.hid Kd
  have HBd := Lib.hid Bd
  have hzd := Bd.size
  clear Wd Rd Kd Bd HOV K5 yy1
  go_wp2
  go_quiet (fail)
  go_wp2
  go_ret2
  have kk : ∀ nq, KeepT w.heap.size [68, 64, 66] w (w8.drewN nq) := fun nq => ((KeepT.of_below B7.out (Nat.le_refl _)).trans HKd.out).trans (KeepT.of_below (dn (rf w8) nq) (by omega))
  have kb := fun nq => ((B7.out.mono hB).trans HBd.out).trans ((dn (rf w8) nq).mono (by omega))
  exact ⟨A8, k8, _, _, _, _, rfl, HRd.out.nx (dn (rf w8) _), own_nx HWd.out.f (dn (rf w8) _), own_nx HWd.out.d (dn (rf w8) _), fun x hx => own_nx (HWd.out.fd x hx) (dn (rf w8) _), fun x hx => own_nx (HWd.out.dd x hx) (dn (rf w8) _), kk _, kb _⟩
end Go.Proofs.YtpfkmmmlocmakaaDoor
