/-
  Resolve: of, where the one question there is is the one that a message answers.
-/
import Derived.Test.YtpfkmmmlocmakaaDoorRvV
set_option linter.unusedVariables false
namespace Go.Proofs.YtpfkmmmlocmakaaDoor
open Go.RowKit Go.Maps

set_option maxRecDepth 100000 in
set_option maxHeartbeats 1600000 in
theorem ofC1 (w : World) (B rb g : Nat) (z : Rz) (q : Qn) (M : Ms) (fr frp to_ top : Int) (DA : Option Addr) (dl dk : Nat) (x : Rc) (hR : IsRv w B rb z) (hqs : z.qs = [(g, q)]) (hM : IsM w M) (hq1 : M.q = [x]) (ht : x.t = 1) (hc : x.c = 1) (hid : q.id = M.id)
    (s0 : 0 ≤ q.server) (s1 : q.server < z.sv.length) (hfr : fr = svAt z q.server) (hnm : (low q.name == low x.nm) = true) (n1 : q.name.size ≤ 3000) (n2 : x.nm.size ≤ 3000) :
    Calls Tryd.prog 41 #[.pointer (some ⟨rb, 0, none⟩), .agg #[.int .u32 fr, .int .i64 frp, .int .u32 to_, .int .i64 top, .slice DA dl dk], .agg #[.int .i64 M.id, .int .i64 M.fl, .slice M.Q 1 M.n, .slice M.A M.a.length M.m]] w fun e w' => e = .returned (.pointer (some ⟨g, 0, none⟩)) ∧ Below w.heap.size w w' := by
  have hrow := hM.q
  rw [hq1] at hrow
  obtain ⟨ad, hQ, _, hcell⟩ := rows_rc (i := 0) (r := x) hrow rfl
  rw [Nat.zero_mul] at hcell
  have hz : (ad.add 0) = ad := by simp [Addr.add]
  rw [hz] at hcell
  have c0 : w.cell? ad = some (.string x.nm) := by have h := hcell 0 _ rfl; rwa [hz] at h
  have c1 : w.cell? ⟨ad.block, ad.off + 1, none⟩ = some (.int .i64 1) := by rw [← ht]; exact hcell 1 _ rfl
  have c2 : w.cell? ⟨ad.block, ad.off + 2, none⟩ = some (.int .i64 1) := by rw [← hc]; exact hcell 2 _ rfl
  have c3 : w.cell? ⟨ad.block, ad.off + 3, none⟩ = some (.int .i64 x.u) := hcell 3 _ rfl
  have c4 : w.cell? ⟨ad.block, ad.off + 4, none⟩ = some (.slice x.A x.da.length x.k) := hcell 4 _ rfl
  have hmem : (g, q) ∈ z.qs := by rw [hqs]; simp
  have hown := hR.qs
  rw [hqs] at hown
  obtain ⟨r, cap, hv, _, hrl, _, _, cur, hcur, _, htk⟩ := own_form hown (by simp)
  injection hv with hv1 _ hv3
  have hQA : z.QA = some ⟨r, 0, none⟩ := hv1
  have r3 : w.cell? ⟨rb, 3, none⟩ = some (.slice (some ⟨r, 0, none⟩) 1 cap) := by
    have h := hR.b.cell 3
    simp only [Rz.cs, List.getElem?_toArray, List.getElem?_cons_zero, List.getElem?_cons_succ] at h
    have hQC : z.qc = cap := hv3
    rw [h, hQA, hQC, hqs]; rfl
  have p0 : w.cell? ⟨r, 0, none⟩ = some (.pointer (some ⟨g, 0, none⟩)) := by
    rw [hcur.cell]
    have h := congrArg (fun l : List Value => l[0]?) htk
    simp only [List.getElem?_take_of_lt (show 0 < [(g, q)].length by simp), Array.getElem?_toList] at h
    exact h
  have qb := (hR.q _ hmem).1
  have q3 : w.cell? ⟨g, 3, none⟩ = some (.int .i64 M.id) := by rw [← hid]; exact qb.cell 3
  obtain ⟨sn, hsn⟩ : ∃ n : Nat, q.server = n := ⟨q.server.toNat, by omega⟩
  have q4 : w.cell? ⟨g, 4, none⟩ = some (.int .i64 sn) := by rw [← hsn]; exact qb.cell 4
  have q1 : w.cell? ⟨g, 1, none⟩ = some (.string q.name) := qb.cell 1
  have hsl : sn < z.sv.length := by omega
  obtain ⟨sad, u, hSA, hsab, hu, hsc⟩ := (Reads.of_own hR.sv).at_ hsl
  obtain ⟨v, hvv⟩ : ∃ v, z.sv[sn]? = some v := ⟨_, List.getElem?_eq_getElem hsl⟩
  have hus : u = .int .u32 v := by rw [List.getElem?_map, hvv] at hu; exact (Option.some.inj hu).symm
  subst hus
  have hfv : fr = v := by rw [hfr]; unfold svAt; rw [hsn, Int.toNat_natCast, hvv]; rfl
  subst hfv
  have r0 : w.cell? ⟨rb, 0, none⟩ = some (.slice (some sad) z.sv.length z.sc) := by rw [← hSA]; exact hR.b.cell 0
  have hrb := hR.b.lt
  have hgl := qb.lt
  have k0 : (0 : Int) ≤ sn := by omega
  have k1 : (sn : Int) < z.sv.length := by omega
  have D0 := Blk.new w 36 #[.int .u32 fr, .int .i64 frp, .int .u32 to_, .int .i64 top, .slice DA dl dk]
  have b1 : Below w.heap.size w (w.alloc (.cells #[.int .u32 fr, .int .i64 frp, .int .u32 to_, .int .i64 top, .slice DA dl dk] 36)) := al (rf w) _
  have hs1 : (w.alloc (.cells #[.int .u32 fr, .int .i64 frp, .int .u32 to_, .int .i64 top, .slice DA dl dk] 36)).heap.size = w.heap.size + 1 := by simp
  have b2 : Below w.heap.size w ((w.alloc (.cells #[.int .u32 fr, .int .i64 frp, .int .u32 to_, .int .i64 top, .slice DA dl dk] 36)).alloc (.cells #[.int .i64 M.id, .int .i64 M.fl, .slice M.Q 1 M.n, .slice M.A M.a.length M.m] 43)) := al b1 _
  have M0 := blk_at (w.alloc (.cells #[.int .u32 fr, .int .i64 frp, .int .u32 to_, .int .i64 top, .slice DA dl dk] 36)) 43 #[.int .i64 M.id, .int .i64 M.fl, .slice M.Q 1 M.n, .slice M.A M.a.length M.m] hs1.symm
  have D1 := Lib.hid (D0.alloc (.cells #[.int .i64 M.id, .int .i64 M.fl, .slice M.Q 1 M.n, .slice M.A M.a.length M.m] 43))
  have M1 := Lib.hid M0
  have B2 := Lib.hid b2
  have HR := Lib.hid hR
  have HQS := Lib.hid hqs
  have HC := Lib.hid hcell
  have HNM := Lib.hid hnm
  have HFR := Lib.hid hfr
  have HID := Lib.hid hid
  have HT := Lib.hid ht
  have HCC := Lib.hid hc
  have ee1 : (M.id == M.id) = true := by simp
  have ee2 : ((fr : Int) == fr) = true := by simp
  clear hR hqs hM hq1 hrow hcell hz D0 b1 hs1 b2 M0 hnm hfr hid ht hc hown hv1 hv3 hQA hcur htk qb hsn hsl hu hvv hmem hSA s0 s1
  rw [hQ]
  rw [hQ] at D1 M1 B2
  have B3 : Hid (Below w.heap.size w (((w.alloc (.cells #[.int .u32 fr, .int .i64 frp, .int .u32 to_, .int .i64 top, .slice DA dl dk] 36)).alloc (.cells #[.int .i64 M.id, .int .i64 M.fl, .slice (some ad) 1 M.n, .slice M.A M.a.length M.m] 43)).alloc (.cells #[.string x.nm, .int .i64 1, .int .i64 1, .int .i64 x.u, .slice x.A x.da.length x.k] 48))) := al B2.out _
  have old : ∀ p : Addr, p.block < w.heap.size → ((((w.alloc (.cells #[.int .u32 fr, .int .i64 frp, .int .u32 to_, .int .i64 top, .slice DA dl dk] 36)).alloc (.cells #[.int .i64 M.id, .int .i64 M.fl, .slice (some ad) 1 M.n, .slice M.A M.a.length M.m] 43)).alloc (.cells #[.string x.nm, .int .i64 1, .int .i64 1, .int .i64 x.u, .slice x.A x.da.length x.k] 48))).cell? p = w.cell? p := fun p hp => B3.out.cell hp
  have R3 := (old ⟨rb, 3, none⟩ hrb).trans r3
  have R0 := (old ⟨rb, 0, none⟩ hrb).trans r0
  have P0 := (old ⟨r, 0, none⟩ hrl).trans p0
  have Q1 := (old ⟨g, 1, none⟩ hgl).trans q1
  have Q3 := (old ⟨g, 3, none⟩ hgl).trans q3
  have Q4 := (old ⟨g, 4, none⟩ hgl).trans q4
  have SC := (old (sad.add sn) (by rw [block_of_add]; exact hsab)).trans hsc
  have hs2 : ((w.alloc (.cells #[.int .u32 fr, .int .i64 frp, .int .u32 to_, .int .i64 top, .slice DA dl dk] 36)).alloc (.cells #[.int .i64 M.id, .int .i64 M.fl, .slice (some ad) 1 M.n, .slice M.A M.a.length M.m] 43)).heap.size = w.heap.size + 1 + 1 := by simp
  have X1 := blk_at ((w.alloc (.cells #[.int .u32 fr, .int .i64 frp, .int .u32 to_, .int .i64 top, .slice DA dl dk] 36)).alloc (.cells #[.int .i64 M.id, .int .i64 M.fl, .slice (some ad) 1 M.n, .slice M.A M.a.length M.m] 43)) 48 #[.string x.nm, .int .i64 1, .int .i64 1, .int .i64 x.u, .slice x.A x.da.length x.k] hs2.symm
  have D3 := (D1.out.alloc (.cells #[.string x.nm, .int .i64 1, .int .i64 1, .int .i64 x.u, .slice x.A x.da.length x.k] 48)).cell 0
  have M3 := (M1.out.alloc (.cells #[.string x.nm, .int .i64 1, .int .i64 1, .int .i64 x.u, .slice x.A x.da.length x.k] 48)).cell 0
  have X3 := X1.cell 0
  simp only [List.getElem?_toArray, List.getElem?_cons_zero] at D3 M3 X3
  clear old hs2 X1
  go_enter Tryd.func41, Tryd.ntmps41
  go_wp2
  clear c0 c1 c2 c3 c4 r3 r0 p0 q1 q3 q4 hsc
  generalize (((w.alloc (.cells #[.int .u32 fr, .int .i64 frp, .int .u32 to_, .int .i64 top, .slice DA dl dk] 36)).alloc (.cells #[.int .i64 M.id, .int .i64 M.fl, .slice (some ad) 1 M.n, .slice M.A M.a.length M.m] 43)).alloc (.cells #[.string x.nm, .int .i64 1, .int .i64 1, .int .i64 x.u, .slice x.A x.da.length x.k] 48)) = w9 at B3 R3 R0 P0 Q1 Q3 Q4 SC D3 M3 X3 ⊢
  obtain ⟨wz, hwz⟩ : ∃ wz, wz = w9 := ⟨_, rfl⟩
  have HWZ := Lib.hid hwz
  clear hwz D1 M1 B2
  go_loopw [27] (fun kv ws => kv = .int .i64 0 ∧ Hid (ws = wz)) (fun _ _ => 0)
  case atStart => exact ⟨rfl, HWZ.out.symm⟩
  case round =>
    obtain ⟨rfl, HW⟩ := hrel
    have ew : w9 = wr := (HW.out.trans HWZ.out).symm
    subst ew
    have HSA : Hid (∀ w : World, Calls Tryd.prog 14 #[.string q.name, .string x.nm] w fun e w' => e = .returned (.bool true) ∧ ∃ n, w' = w.drewN n) := fun w => by
      have h := sameC q.name x.nm w (by omega) (by omega)
      rw [HNM.out] at h
      exact h
    go_wp2
    go_quiet ((go_at_call 14; exact Calls.quiet_of (HSA.out _)))
    go_wp2
    go_ret
    exact ⟨rfl, dn B3.out _⟩
end Go.Proofs.YtpfkmmmlocmakaaDoor
