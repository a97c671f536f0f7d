/-
  Resolve: asks: a question's server is asked.
-/
import Derived.Test.YtpfkmmmlocmakaaDoorRv
import Derived.Test.YtpfkmmmlocmakaaDoorNmDi
import Derived.Laws.BitsLemmas
import Derived.Deep.RegionLaw
import Derived.Test.YtpfkmmmlocmakaaDoorChd
set_option linter.unusedVariables false
namespace Go.Proofs.YtpfkmmmlocmakaaDoor
open Go.RowKit Go.Maps

def idV (draw sent : Int) : Int := bits .and .i64 (wrap64 (bits .and .i64 draw 65535 + bits .and .i64 sent 65535)) 65535
theorem mask_eq (x : Int) : bits .and .i64 x 65535 = x % 65536 := by
  have h2 : (BitVec.ofInt 64 65535).toNat = 2 ^ 16 - 1 := by decide
  show IntKind.i64.wrap (((BitVec.ofInt 64 x &&& BitVec.ofInt 64 65535).toNat : Nat) : Int) = _
  rw [BitVec.toNat_and, h2, Nat.and_two_pow_sub_one_eq_mod, BitVec.toNat_ofInt, IntKind.wrap_i64]
  omega
theorem mask16 (x : Int) : 0 ≤ bits .and .i64 x 65535 ∧ bits .and .i64 x 65535 ≤ 65535 := by
  rw [mask_eq]; omega
theorem idV_le (d s : Int) : 0 ≤ idV d s ∧ idV d s ≤ 65535 := mask16 _
-- a question's message
def askM (id : Int) (s : ByteArray) (Q : Option Addr) : Ms := ⟨id, 256, [⟨s, 1, 1, 0, [], none, 0⟩], [], Q, none, 1, 0⟩
theorem askM_ok {id : Int} {s : ByteArray} {Q : Option Addr} (i0 : 0 ≤ id) (i1 : id ≤ 65535) (hs : isN s.data.toList = true) : wrongI (askM id s Q) = 0 := by
  unfold wrongI askM
  have g1 : goodV id = true := by unfold goodV; simp [i0, i1]
  have g2 : goodV 256 = true := rfl
  have b1 : badN [(⟨s, 1, 1, 0, [], none, 0⟩ : Rc)] true = false := rfl
  have b2 : badN ([] : List Rc) false = false := rfl
  simp only [g1, g2, b1, b2]
  simp [nmBad, hs]
theorem MaxL.of4 {w w' : World} {g rb wb : Nat} {qc rc wc : Array Value} {q : Qn} {z : Rz} (h : MaxL w) (t : T4 w w' g rb wb qc rc wc) (hq : Blk w g 68 q.cs) (hr : Blk w rb 64 z.cs) : MaxL w' := by
  obtain ⟨m, hm⟩ := h
  have h1 : 0 ≠ g := by
    intro e
    have h1 := hq.cell 0
    rw [← e, hm] at h1
    simp [Qn.cs] at h1
  have h2 : 0 ≠ rb := by
    intro e
    have h1 := hr.cell 0
    rw [← e, hm] at h1
    simp [Rz.cs] at h1
  exact ⟨m, (World.cell?_of_block (t.same 0 h1 h2)).trans hm⟩
def askB (id : Int) (s : ByteArray) : List UInt8 := encM (askM id s none)
theorem askM_is {w : World} {b : Nat} {id : Int} {s : ByteArray} (hb : Blk w b 48 #[.string s, .int .i64 1, .int .i64 1, .int .i64 0, .slice none 0 0]) (hs : s.size ≤ 3000) : IsM w (askM id s (some ⟨b, 0, none⟩)) := by
  refine ⟨⟨rfl, ?_, fun _ => ⟨_, rfl, hb.lt, fun i r hr j u hu => ?_⟩⟩, ⟨rfl, by simp [askM], fun h => absurd h (by simp [askM])⟩, fun r hr => ?_, by simp [askM], by simp [askM], by simp [askM]⟩
  · intro r hr
    simp only [askM, List.map_cons, List.map_nil, List.mem_singleton] at hr
    subst hr; rfl
  · match i, hr with
    | 0, hr =>
      simp only [askM, List.map_cons, List.map_nil, List.getElem?_cons_zero, Option.some.injEq] at hr
      subst hr
      rw [Addr.add_mid, hb.cell]
      simpa [Rc.cs] using hu
  · simp only [askM, List.mem_singleton] at hr
    subst hr
    exact ⟨Bytes.nil _ _, Nat.le_refl _, Nat.zero_le _, hs⟩
theorem encAsk (w : World) (b : Nat) (id : Int) (s : ByteArray) (hb : Blk w b 48 #[.string s, .int .i64 1, .int .i64 1, .int .i64 0, .slice none 0 0]) (hs : s.size ≤ 3000) (hn : isN s.data.toList = true) (i0 : 0 ≤ id) (i1 : id ≤ 65535) (hm : MaxL w) :
    Calls Tryd.prog 15 #[.agg #[.int .i64 id, .int .i64 256, .slice (some ⟨b, 0, none⟩) 1 1, .slice none 0 0]] w fun e w' => (∃ x : Option Addr × Nat, e = .returned (.tuple #[.slice x.1 (askB id s).length x.2, .int .i64 0]) ∧ w'.ownsRow w.heap.size 5 1 (.slice x.1 (askB id s).length x.2) (askB id s).length (Lib.byteCells (askB id s))) ∧ Below w.heap.size w w' := by
  refine (encNC w (askM id s (some ⟨b, 0, none⟩)) (askM_is hb hs) hm).mono ?_
  rintro e w' (⟨_, A, c, rfl, own, b2⟩ | ⟨hz, _⟩)
  · exact ⟨⟨(A, c), rfl, own⟩, b2⟩
  · exact absurd (askM_ok i0 i1 hn) hz
-- what asks leaves of a question
def Qn.ask (q : Qn) (id now : Int) : Qn := { q with id := id, asked := q.asked + 1, next := now + 50 }
def isRg (n : Nat) : Code → Bool
  | .region m _ _ => m == n
  | _ => false
def fromRg (n : Nat) : Code → Option Code
  | .seq a b => if isRg n a then some (.seq a b) else match fromRg n a with
    | some c => some c
    | none => if isRg n b then some b else fromRg n b
  | .loop c => fromRg n c
  | .block _ c => fromRg n c
  | .scope c => fromRg n c
  | .cond _ a b => match fromRg n a with
    | some c => some c
    | none => fromRg n b
  | _ => none
theorem stDg : SliceTy Tryd.prog 29 36 5 56 (.agg #[.int .u32 0, .int .i64 0, .int .u32 0, .int .i64 0, .slice none 0 0]) := ⟨Tryd.underlying29, by kernel_rfl, rfl, by omega⟩
noncomputable def asksTail : Code := ((Tryd.f48.body.bind (fromRg 5)).getD .skip)
def svAt (z : Rz) (i : Int) : Int := (z.sv[i.toNat]?).getD 0
def AskT (w : World) (N wb rb : Nat) (now draw : Int) (fs : List Fd) (FA : Option Addr) (fc : Nat) (ds : List Dg) (d : Dg) (e : Ending) (w' : World) : Prop :=
  e = .returned (.tuple #[]) ∧ ∃ DA dc, IsWk w' N wb rb now draw fs FA fc (ds ++ [d]) DA dc ∧ KeepT w.heap.size [71, 36] w w' ∧ KeepT N [] w w' ∧ Below N w w'
set_option maxRecDepth 100000 in
set_option maxHeartbeats 1600000 in
theorem asksT (w : World) (B N wb rb g : Nat) (z : Rz) (now draw : Int) (fs : List Fd) (FA : Option Addr) (fc : Nat) (ds : List Dg) (DA : Option Addr) (dc : Nat) (q : Qn) (A5 : Option Addr) (k5 : Nat)
    (hR : IsRv w B rb z) (hW : IsWk w N wb rb now draw fs FA fc ds DA dc) (hmem : (g, q) ∈ z.qs) (s0 : 0 ≤ q.server) (s1 : q.server < z.sv.length) (hds : ds.length ≤ 1000000) (hN : N ≤ w.heap.size) (hA5 : w.ownsRow N 5 1 (.slice A5 (askB q.id q.name).length k5) (askB q.id q.name).length (Lib.byteCells (askB q.id q.name)))
    (P : Ending → World → Prop) (hP : ∀ e w', AskT w N wb rb now draw fs FA fc ds ⟨z.port, svAt z q.server, askB q.id q.name, A5, k5⟩ e w' → P e w')
    (s2 s3 s5 s6 s7 s8 s9 s10 s11 s12 s13 s14 s15 s16 s17 s18 s19 s20 s21 s22 s23 s24 s25 s26 s27 s28 s29 s30 s31 s32 s33 s34 s35 s36 s37 s38 s39 s40 s41 s42 s43 s44 s45 s46 s47 s48 s49 s50 s51 s52 s53 s54 s55 s56 s57 s58 s59 s60 s61 s62 s63 s64 s65 s66 s67 s68 s69 s70 s71 s72 s73 s74 s75 s76 s77 s78 s79 s80 s81 s82 s83 s84 s85 s86 s87 s88 s89 s90 s91 s92 s93 s94 : Value) :
    Code.wp Tryd.prog asksTail (bodyPost Tryd.prog Tryd.f48 P) { tmps := #[.pointer (some ⟨wb, 0, none⟩), .pointer (some ⟨g, 0, none⟩), s2, s3, .slice A5 (askB q.id q.name).length k5, s5, s6, s7, s8, s9, s10, s11, s12, s13, s14, s15, s16, s17, s18, s19, s20, s21, s22, s23, s24, s25, s26, s27, s28, s29, s30, s31, s32, s33, s34, s35, s36, s37, s38, s39, s40, s41, s42, s43, s44, s45, s46, s47, s48, s49, s50, s51, s52, s53, s54, s55, s56, s57, s58, s59, s60, s61, s62, s63, s64, s65, s66, s67, s68, s69, s70, s71, s72, s73, s74, s75, s76, s77, s78, s79, s80, s81, s82, s83, s84, s85, s86, s87, s88, s89, s90, s91, s92, s93, s94], defers := [] } w := by
  unfold asksTail
  conv => arg 2; whnf
  dsimp only
  have r0 : w.cell? ⟨rb, 0, none⟩ = some (.slice z.SA z.sv.length z.sc) := hR.b.cell 0
  have r1 : w.cell? ⟨rb, 1, none⟩ = some (.int .i64 z.port) := hR.b.cell 1
  have x0 : w.cell? ⟨wb, 0, none⟩ = some (.pointer (some ⟨rb, 0, none⟩)) := hW.b.cell 0
  have x4 : w.cell? ⟨wb, 4, none⟩ = some (.slice DA ds.length dc) := hW.b.cell 4
  have q4 : w.cell? ⟨g, 4, none⟩ = some (.int .i64 q.server) := (hR.q _ hmem).1.cell 4
  have f4 : w.frozen? ⟨wb, 4, none⟩ = false := hW.b.frozen 4
  obtain ⟨sn, hsn⟩ : ∃ n : Nat, q.server = n := ⟨q.server.toNat, by omega⟩
  have hsl : sn < z.sv.length := by omega
  obtain ⟨ad, u, hSA, hab, hu, hc⟩ := (Reads.of_own hR.sv).at_ hsl
  obtain ⟨sv, hsv⟩ : ∃ sv, z.sv[sn]? = some sv := ⟨_, List.getElem?_eq_getElem hsl⟩
  have hus : u = .int .u32 sv := by rw [List.getElem?_map, hsv] at hu; exact (Option.some.inj hu).symm
  subst hus
  rw [hSA] at r0
  rw [hsn] at q4
  have k0 : (0 : Int) ≤ sn := by omega
  have k1 : (sn : Int) < z.sv.length := by omega
  have HR := Lib.hid hR
  have HWk := Lib.hid hW
  have HSV := Lib.hid hsv
  have HSN := Lib.hid hsn
  have OD := Lib.hid hW.d
  have hs0 : Hid (N ≤ w.heap.size) := hN
  have WB := Lib.hid hW.b
  obtain ⟨Dv, hDv⟩ : ∃ Dv, Dv = Value.slice DA ds.length dc := ⟨_, rfl⟩
  obtain ⟨wcs, hwcs⟩ : ∃ wcs, wcs = #[ptr rb, .int .i64 now, .int .i64 draw, .slice FA fs.length fc, .slice DA ds.length dc] := ⟨_, rfl⟩
  have own_ne : ∀ {t : TypeId} {i : Nat} {cs : Array Value}, Blk w i t cs → 36 ≠ t → ¬ (Dv.ownBlock = some i) := fun {t i cs} hb hne => by rw [hDv]; exact own_blk_ne hW.d hb hne
  have e0 : ∀ x : Gd w wb (fun i => Dv.ownBlock = some i) 71 wcs, x.w.cell? ⟨wb, 0, none⟩ = some (.pointer (some ⟨rb, 0, none⟩)) := fun x => by rw [x.z.cell, hwcs]; rfl
  have e4 : ∀ x : Gd w wb (fun i => Dv.ownBlock = some i) 71 wcs, x.w.cell? ⟨wb, 4, none⟩ = some (.slice DA ds.length dc) := fun x => by rw [x.z.cell, hwcs]; rfl
  have nrw : rb ≠ wb := hR.b.ne_ hW.b (by decide)
  have ngw : g ≠ wb := (hR.q _ hmem).1.ne_ hW.b (by decide)
  have g0 : ∀ x : Gd w wb (fun i => Dv.ownBlock = some i) 71 wcs, x.w.cell? ⟨rb, 0, none⟩ = some (.slice (some ad) z.sv.length z.sc) := fun x => ((x.blk hR.b nrw (own_ne hR.b (by decide))).cell 0).trans (by rw [← hSA]; rfl)
  have g1 : ∀ x : Gd w wb (fun i => Dv.ownBlock = some i) 71 wcs, x.w.cell? ⟨rb, 1, none⟩ = some (.int .i64 z.port) := fun x => (x.blk hR.b nrw (own_ne hR.b (by decide))).cell 1
  have g4 : ∀ x : Gd w wb (fun i => Dv.ownBlock = some i) 71 wcs, x.w.cell? ⟨g, 4, none⟩ = some (.int .i64 sn) := fun x => ((x.blk (hR.q _ hmem).1 ngw (own_ne (hR.q _ hmem).1 (by decide))).cell 4).trans (by rw [← hsn]; rfl)
  have gs : ∀ x : Gd w wb (fun i => Dv.ownBlock = some i) 71 wcs, x.w.cell? (ad.add sn) = some (.int .u32 sv) := fun x => by
    have hsa := hR.sv
    rw [hSA] at hsa
    rcases hsa.2 with ⟨_, h0⟩ | ⟨gg, cap, cur, e, _, hh, _⟩
    · omega
    · injection e with e _ _
      injection e with e
      have hB : Blk w gg 33 cur := hh
      have hbk := x.h.block gg hB.lt (hB.ne_ hW.b (by decide)) (own_ne hB (by decide))
      rw [World.cell?_of_block (w := w) (by rw [block_of_add, e]; exact hbk)]
      exact hc
  have hne1 : Nonempty (Gd w wb (fun i => Dv.ownBlock = some i) 71 wcs) := ⟨⟨w, Cd.refl _ _ _, by rw [hwcs]; exact hW.b⟩⟩
  have WBc : Blk w wb 71 wcs := by rw [hwcs]; exact hW.b
  have HDV := Lib.hid hDv
  have HWCS := Lib.hid hwcs
  have HA5 := Lib.hid hA5
  have ODW : Dv.ownBlock ≠ some wb := own_ne hW.b (by decide)
  clear hA5 hR hW hmem s0 s1 hsn hsl hab hu hsv hSA own_ne hDv hwcs r0 r1 x0 x4 q4 f4 nrw ngw hc
  refine wp_region_chd wb (fun i => Dv.ownBlock = some i) 71 wcs 31 (by kernel_rfl) (by kernel_rfl) (by kernel_rfl) (by kernel_rfl) WBc ?_
  iterate 27 (refine chd_early (by kernel_rfl) (by kernel_rfl) (by kernel_rfl) ?_; intro K hK; go_big_quiet_op; go_big_quiet_on)
  refine chd_lit w.drew (.cells #[.int .u32 0, .int .i64 z.port, .int .u32 sv, .int .i64 53, .slice A5 (askB q.id q.name).length k5] 36) (.slice (some ⟨w.heap.size, 0, none⟩) 1 1) (by kernel_rfl) (by kernel_rfl) (by first | rfl | (unfold execOp; simp [go_sem])) ?_
  go_frame
  have OW1 : Hid ((w.drew.alloc (.cells #[.int .u32 0, .int .i64 z.port, .int .u32 sv, .int .i64 53, .slice A5 (askB q.id q.name).length k5] 36)).ownsRow N 36 5 Dv ds.length (ds.flatMap Dg.cs)) := by
    show World.ownsRow _ _ _ _ _ _ _
    rw [HDV.out]
    exact (OD.out.drew).alloc _
  refine chd_app stDg (w.drew.alloc (.cells #[.int .u32 0, .int .i64 z.port, .int .u32 sv, .int .i64 53, .slice A5 (askB q.id q.name).length k5] 36)) (by kernel_rfl) (.tmp 68) (.tmp 91) rfl N Dv ds.length (ds.flatMap Dg.cs) HDV.out.symm OW1.out (fun i h => .inl h) ODW (some ⟨w.heap.size, 0, none⟩) 1 1 [.int .u32 0, .int .i64 z.port, .int .u32 sv, .int .i64 53, .slice A5 (askB q.id q.name).length k5] rfl (reads5 (Blk.new w.drew _ _) rfl) (by intro u hu; simp only [List.mem_cons, List.not_mem_nil, or_false] at hu; rcases hu with rfl | rfl | rfl | rfl | rfl <;> rfl) (by omega) (by omega) (Nat.le_trans hs0.out (by simp)) (fun v6 w6 own6 gr6 at6 bel6 => ?_)
  obtain ⟨D6, n6, rfl⟩ := own_slice own6
  have O6 := Lib.hid own6
  have G6 := Lib.hid gr6
  have A6 := Lib.hid at6
  have BL6 := Lib.hid bel6
  have WB6 : Hid (Blk w6 wb 71 wcs) := ((WBc.drew).alloc _).grown gr6 (fun e => ODW e.symm)
  clear own6 gr6 at6 bel6
  go_frame
  iterate 2 (refine chd_early (by kernel_rfl) (by kernel_rfl) (by kernel_rfl) ?_; intro K hK; go_big_quiet_op; go_big_quiet_on)
  have h1 : w6.cell? ⟨wb, 4, none⟩ = some (.slice DA ds.length dc) := by rw [WB6.out.cell, HWCS.out]; rfl
  have h2 := WB6.out.frozen 4
  refine chd_store w6 (by kernel_rfl) 29 (.tmp 94) (.tmp 92) rfl rfl 4 (.slice D6 (ds.length + 1) n6) rfl rfl (by simp [go_sem, h1, h2]) ?_
  go_frame
  refine chd_nil ?_
  intro wz hC hz
  subst hz
  clear e0 e4 g0 g1 g4 gs hne1
  have es : svAt z q.server = sv := by unfold svAt; rw [HSN.out, Int.toNat_natCast, HSV.out]; rfl
  have OWs : (w.drew.alloc (.cells #[.int .u32 0, .int .i64 z.port, .int .u32 sv, .int .i64 53, .slice A5 (askB q.id q.name).length k5] 36)).ownsRow N 36 5 (.slice DA ds.length dc) ds.length (ds.flatMap Dg.cs) := by rw [← HDV.out]; exact OW1.out
  have G6s := G6.out
  rw [HDV.out] at G6s
  have kb : Below w.heap.size w (w.drew.alloc (.cells #[.int .u32 0, .int .i64 z.port, .int .u32 sv, .int .i64 53, .slice A5 (askB q.id q.name).length k5] 36)) := al (rf w).drew _
  have hwlt := HWk.out.b.lt
  have sz1 : w.heap.size ≤ (w.drew.alloc (.cells #[.int .u32 0, .int .i64 z.port, .int .u32 sv, .int .i64 53, .slice A5 (askB q.id q.name).length k5] 36)).heap.size := kb.size
  have sz2 := G6s.size
  have hNw := hs0.out
  have nwb := HWk.out.lo
  have K1 : ∀ n, n ≤ w.heap.size → ∀ ts, (n ≤ N ∨ (36 ∈ ts ∧ 71 ∈ ts)) → KeepT n ts w (w6.setCell ⟨wb, 4, none⟩ (.slice D6 (ds.length + 1) n6)) := fun n hn ts ht => by
    have k1 : KeepT n ts w (w.drew.alloc (.cells #[.int .u32 0, .int .i64 z.port, .int .u32 sv, .int .i64 53, .slice A5 (askB q.id q.name).length k5] 36)) := KeepT.of_below kb hn
    have k2 : KeepT n ts (w.drew.alloc (.cells #[.int .u32 0, .int .i64 z.port, .int .u32 sv, .int .i64 53, .slice A5 (askB q.id q.name).length k5] 36)) w6 := KeepT.of_row G6s OWs (by rcases ht with h | h; exact .inl h; exact .inr h.1) (by omega)
    have k3 : KeepT n ts w6 (w6.setCell ⟨wb, 4, none⟩ (.slice D6 (ds.length + 1) n6)) := KeepT.of_set WB6.out _ (by rcases ht with h | h; exact .inl (by omega); exact .inr h.2) (by omega)
    exact (k1.trans k2).trans k3
  have KA := K1 w.heap.size (Nat.le_refl _) [71, 36] (.inr ⟨by simp, by simp⟩)
  have HWd := HWk.out
  go_end0
  refine hP _ _ ⟨rfl, D6, n6, ⟨?_, HWd.lo, KA.own HWd.f (by decide), ?_, fun x hx => KA.own (HWd.fd x hx) (by decide), fun x hx => ?_⟩, KA, K1 N hNw [] (.inl (Nat.le_refl _)), ?_⟩
  · have h3 := WB6.out.set_ 4 (.slice D6 (ds.length + 1) n6)
    rw [HWCS.out] at h3
    rw [List.length_append]
    exact h3
  · rw [List.length_append, List.flatMap_append]
    have h3 := (KeepT.of_set (i := 4) (ts := [71]) WB6.out (.slice D6 (ds.length + 1) n6) (.inr (by simp)) (Nat.le_refl _)).own O6.out (by decide)
    rw [es]
    exact h3
  · rcases List.mem_append.1 hx with hx | hx
    · exact KA.own (HWd.dd x hx) (by decide)
    · obtain rfl := List.mem_singleton.1 hx
      exact KA.own HA5.out (by decide)
  · exact ((kb.mono hNw).trans BL6.out).setCell nwb _
end Go.Proofs.YtpfkmmmlocmakaaDoor
