/-
  Resolve: Ask of a name that is no question yet, where nothing is kept.
-/
import Derived.Test.YtpfkmmmlocmakaaDoorRvG
import Derived.Test.YtpfkmmmlocmakaaDoorNm
set_option linter.unusedVariables false
namespace Go.Proofs.YtpfkmmmlocmakaaDoor
open Go.RowKit Go.Maps

-- what a call hands back: what is found, what is sent
def HandP (w : World) (B rb : Nat) (z : Rz) (fs : List Fd) (ds : List Dg) (e : Ending) (w' : World) : Prop :=
  ∃ (FA DA : Option Addr) (fc dc : Nat), e = .returned (.tuple #[.slice FA fs.length fc, .slice DA ds.length dc]) ∧ IsRv w' B rb z ∧
    w'.ownsRow w.heap.size 39 3 (.slice FA fs.length fc) fs.length (fs.flatMap Fd.cs) ∧ w'.ownsRow w.heap.size 36 5 (.slice DA ds.length dc) ds.length (ds.flatMap Dg.cs) ∧
    (∀ x ∈ fs, w'.ownsRow w.heap.size 33 1 (.slice x.A x.ad.length x.k) x.ad.length (x.ad.map (Value.int .u32))) ∧ (∀ x ∈ ds, w'.ownsRow w.heap.size 5 1 (.slice x.A x.da.length x.k) x.da.length (Lib.byteCells x.da)) ∧
    KeepT w.heap.size [68, 64, 66] w w' ∧ Below B w w'
def AskAll (w : World) (B rb : Nat) (z : Rz) (s : ByteArray) (now draw : Int) (e : Ending) (w' : World) : Prop :=
  ∃ (g : Nat) (QA : Option Addr) (qc : Nat) (A : Option Addr) (k : Nat), w.heap.size ≤ g ∧
    HandP w B rb { z with sent := z.sent + 1, qs := z.qs ++ [(g, ⟨s, s, 0, idV draw z.sent, 0, 1, now + 50⟩)], QA := QA, qc := qc } [] [⟨z.port, svAt z 0, askB (idV draw z.sent) s, A, k⟩] e w'
set_option maxRecDepth 100000 in
set_option maxHeartbeats 1600000 in
theorem askE (w : World) (B rb : Nat) (z : Rz) (s : ByteArray) (now draw : Int) (hR : IsRv w B rb z) (hK : KE w z.km) (hm : MaxL w) (hql : z.qs.length < 32)
    (hn : isN s.data.toList = true) (hns : s.size ≤ 3000) (h0 : s.size ≠ 0) (s1 : 1 ≤ z.sv.length) (hsv : z.sv.length ≤ 3) (n0 : 0 ≤ now) (n1 : now ≤ 1152921504606846976) (e0 : 0 ≤ z.sent) (e1 : z.sent ≤ 1152921504606846976)
    (hB : B ≤ w.heap.size) (hB0 : 0 < B) (hsame : ∀ p ∈ z.qs, (low p.2.first == low s) = false ∧ p.2.first.size ≤ 3000) :
    Calls Tryd.prog 11 #[.pointer (some ⟨rb, 0, none⟩), .string s, .int .i64 now, .int .i64 draw] w (AskAll w B rb z s now draw) := by
  have r0 := hR.b.cell 0
  simp only [Rz.cs, List.getElem?_toArray, List.getElem?_cons_zero] at r0
  have HP := Lib.hid (packC s w (by omega) hm)
  have HR := Lib.hid hR
  have HM := Lib.hid hm
  have HK := Lib.hid hK
  have HN := Lib.hid hn
  have HS := Lib.hid hsame
  have hl0 : ((z.sv.length : Int) == 0) = false := by rw [beq_eq_false_iff_ne]; omega
  have hse : s.toList.isEmpty = false := by
    rw [ByteArray.toList_eq]
    cases hc : s.data.toList with
    | nil => exact absurd (by rw [← str_len, hc]; rfl) h0
    | cons a l => rfl
  clear hR hK hm hn hsame
  go_enter Tryd.func11, Tryd.ntmps11
  go_wp2_with fail
  refine HP.out.mono ?_
  rintro e w1 (⟨_, A, c, rfl, own, b1⟩ | ⟨hf, rfl, b1⟩)
  rotate_left
  · exact absurd (HN.out.symm.trans hf) (by simp)
  have R1 := Lib.hid (HR.out.nx b1)
  have K1 := Lib.hid (HK.out.nx b1)
  have B1 := Lib.hid b1
  have r3 := R1.out.b.cell 3
  simp only [Rz.cs, List.getElem?_toArray, List.getElem?_cons_zero, List.getElem?_cons_succ] at r3
  clear own b1 r0 HP
  obtain ⟨QA0, hQA⟩ : ∃ QA0, z.QA = QA0 := ⟨_, rfl⟩
  have HQA := Lib.hid hQA
  rw [hQA] at r3
  clear hQA
  go_wp2
  obtain ⟨wz, hwz⟩ : ∃ wz, wz = w1 := ⟨_, rfl⟩
  have HWZ := Lib.hid hwz
  clear hwz r3
  go_loopw [44] (fun kv ws => ∃ (k n : Nat), kv = .int .i64 k ∧ k ≤ z.qs.length ∧ Hid (ws = wz.drewN n)) (fun kv _ => z.qs.length - (intOf kv).toNat)
  case atStart => exact ⟨0, 0, rfl, by omega, by rw [HWZ.out]; rfl⟩
  case round =>
    obtain ⟨k, n, rfl, hk, HWR⟩ := hrel
    have Bz : Hid (Below w1.heap.size w1 wr) := by
      show Below _ _ _
      rw [HWR.out, HWZ.out]
      exact dn (rf w1) n
    have RR := Lib.hid (R1.out.nx Bz.out)
    by_cases hlt : k < z.qs.length
    · obtain ⟨p, hp⟩ : ∃ p, z.qs[k]? = some p := ⟨_, List.getElem?_eq_getElem hlt⟩
      have hpm := List.mem_of_getElem? hp
      have hown := Reads.of_own RR.out.qs
      rw [HQA.out] at hown
      obtain ⟨ad, u, hA, _, hu, hc⟩ := hown.at_ hlt
      subst hA
      have hu2 : u = .pointer (some ⟨p.1, 0, none⟩) := by rw [List.getElem?_map, hp] at hu; exact (Option.some.inj hu).symm
      rw [hu2] at hc
      have k0 : (0 : Int) ≤ k := by omega
      have k1 : (k : Int) < z.qs.length := by omega
      have c0 : wr.cell? ⟨p.1, 0, none⟩ = some (.string p.2.first) := (RR.out.q p hpm).1.cell 0
      obtain ⟨hsm, hsz⟩ := HS.out p hpm
      have HSA := sameC p.2.first s wr (by omega) (by omega)
      rw [hsm] at HSA
      have HSA1 := Lib.hid HSA
      clear HSA hu hu2 hp hpm hown hsm
      go_wp2_with fail
      refine HSA1.out.mono ?_
      rintro e w2 ⟨rfl, m, hw2⟩
      have H2 : Hid (w2 = wz.drewN (n + m)) := by
        show _ = _
        rw [hw2, HWR.out, World.drewN_drewN]
      clear hw2 HSA1
      go_wp2
      go_roundw
      case rel => exact ⟨k + 1, n + m, by go_num, by omega, H2.out⟩
      case measure => simp [intOf]; omega
    · have hkl : ¬ (k : Int) < z.qs.length := by omega
      have zz : w.heap.size ≤ wr.heap.size := (nx B1.out Bz.out).size
      have KR := Lib.hid (K1.out.nx Bz.out)
      have WA : Hid (Blk (wr.alloc (.cells #[.pointer (some ⟨rb, 0, none⟩), .int .i64 now, .int .i64 draw, .slice none 0 0, .slice none 0 0] 71)) wr.heap.size 71 #[.pointer (some ⟨rb, 0, none⟩), .int .i64 now, .int .i64 draw, .slice none 0 0, .slice none 0 0]) := Blk.new _ _ _
      go_wp2_with fail
      have hszA : (wr.alloc (.cells #[.pointer (some ⟨rb, 0, none⟩), .int .i64 now, .int .i64 draw, .slice none 0 0, .slice none 0 0] 71)).heap.size = wr.heap.size + 1 := by simp
      have QB0 : Blk ((wr.alloc (.cells #[.pointer (some ⟨rb, 0, none⟩), .int .i64 now, .int .i64 draw, .slice none 0 0, .slice none 0 0] 71)).alloc (.cells #[.string s, .string s, .int .i64 0, .int .i64 0, .int .i64 0, .int .i64 0, .int .i64 0] 68)) (wr.heap.size + 1) 68 (⟨s, s, 0, 0, 0, 0, 0⟩ : Qn).cs := blk_at _ _ _ hszA.symm
      have kz : Below wr.heap.size wr ((wr.alloc (.cells #[.pointer (some ⟨rb, 0, none⟩), .int .i64 now, .int .i64 draw, .slice none 0 0, .slice none 0 0] 71)).alloc (.cells #[.string s, .string s, .int .i64 0, .int .i64 0, .int .i64 0, .int .i64 0, .int .i64 0] 68)) := al (al (rf wr) _) _
      have WB0 : Blk ((wr.alloc (.cells #[.pointer (some ⟨rb, 0, none⟩), .int .i64 now, .int .i64 draw, .slice none 0 0, .slice none 0 0] 71)).alloc (.cells #[.string s, .string s, .int .i64 0, .int .i64 0, .int .i64 0, .int .i64 0, .int .i64 0] 68)) wr.heap.size 71 #[.pointer (some ⟨rb, 0, none⟩), .int .i64 now, .int .i64 draw, .slice none 0 0, .slice none 0 0] := WA.out.alloc _
      have hwpos : 0 < w.heap.size := by omega
      have hkm : KE ((wr.alloc (.cells #[.pointer (some ⟨rb, 0, none⟩), .int .i64 now, .int .i64 draw, .slice none 0 0, .slice none 0 0] 71)).alloc (.cells #[.string s, .string s, .int .i64 0, .int .i64 0, .int .i64 0, .int .i64 0, .int .i64 0] 68)) z.km := KR.out.nx kz
      have hgn : wr.heap.size + 1 ∉ z.qs.map (·.1) := fun h => by
        obtain ⟨x, hx, e⟩ := List.mem_map.1 h
        have := (RR.out.q x hx).1.lt
        omega
      have b02 : Below w.heap.size w ((wr.alloc (.cells #[.pointer (some ⟨rb, 0, none⟩), .int .i64 now, .int .i64 draw, .slice none 0 0, .slice none 0 0] 71)).alloc (.cells #[.string s, .string s, .int .i64 0, .int .i64 0, .int .i64 0, .int .i64 0, .int .i64 0] 68)) := nx (nx B1.out Bz.out) kz
      have B02 := Lib.hid b02
      have HGO := goesE _ B w.heap.size wr.heap.size rb (wr.heap.size + 1) z now draw [] none 0 [] none 0 ⟨s, s, 0, 0, 0, 0, 0⟩ (RR.out.nx kz) ⟨WB0, zz, World.ownsRow_nil _ _ _ _, World.ownsRow_nil _ _ _ _, by simp, by simp⟩ QB0 (by omega) hgn hkm (HM.out.below b02 hwpos) hql HN.out hns s1 hsv n0 n1 e0 e1 (by simp) hB b02.size hB0
      refine HGO.mono ?_
      rintro e w8 ⟨rfl, Q8, n8, A8, k8, D8, d8, R8, W8, K8, N8, B8⟩
      have HR8 := Lib.hid R8
      have HW8 := Lib.hid W8
      have HN8 := Lib.hid N8
      have HB8 := Lib.hid B8
      have y3 := W8.b.cell 3
      have y4 := W8.b.cell 4
      simp only [List.getElem?_toArray, List.getElem?_cons_zero, List.getElem?_cons_succ] at y3 y4
      have hgw : w.heap.size ≤ wr.heap.size + 1 := by omega
      clear R8 W8 K8 N8 B8 HGO hkm hgn WB0 kz QB0 hszA b02
      go_wp2
      go_quiet (fail)
      go_wp2
      go_ret2
      refine ⟨wr.heap.size + 1, Q8, n8, A8, k8, hgw, none, D8, 0, d8, rfl, HR8.out.nx (dn (rf w8) _), ?_, ?_, by simp, ?_, ?_, ?_⟩
      · exact World.ownsRow_nil _ _ _ _
      · exact own_nx HW8.out.d (dn (rf w8) _)
      · exact fun x hx => own_nx (HW8.out.dd x hx) (dn (rf w8) _)
      · exact ((KeepT.of_below B02.out (Nat.le_refl _)).trans (HN8.out.mono (by decide))).trans (KeepT.of_below (dn (rf w8) _) (by have := B02.out.size; have := HB8.out.size; omega))
      · exact ((B02.out.mono hB).trans HB8.out).trans ((dn (rf w8) _).mono (by have := B02.out.size; have := HB8.out.size; omega))
end Go.Proofs.YtpfkmmmlocmakaaDoor
