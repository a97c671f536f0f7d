/-
  IP: the walk of the law that what a packet is written as is read as it, whatever stands behind.
-/
import Derived.Test.YthjpdaflgphbbaaDoorIpBh
import Derived.Test.YthjpdaflgphbbaaDoorIpSu
set_option linter.unusedVariables false
namespace Go.Proofs.YthjpdaflgphbbaaDoor
open Go.RowKit

def lenAt (w : World) (b : Nat) : Nat := match w.cell? ⟨b, 9, none⟩ with
  | some (.slice _ n _) => n
  | _ => 0
-- where the loop stands that pads the options
structure Lp (w5 wr : World) (b0 : Nat) (p : Pk) (op' : List UInt8) (j : Nat) (A' : Option Addr) (c' : Nat) (B : Option Addr) (e : Nat) : Prop where
  hop : op' = p.op ++ List.replicate j 0
  hj : j ≤ sizeP p.op.length - 20 - p.op.length
  blk : Blk wr b0 26 (({ p with op := op' } : Pk).cs (.slice A' op'.length c') (.slice B p.da.length e)).toArray
  row : Bytes wr A' op'
  cap : op'.length ≤ c'
  o : w5.grownBy wr (some b0)
theorem Lp.len {w5 wr : World} {b0 : Nat} {p : Pk} {op' : List UInt8} {j : Nat} {A' : Option Addr} {c' : Nat} {B : Option Addr} {e : Nat} (h : Lp w5 wr b0 p op' j A' c' B e) : lenAt wr b0 = op'.length ∧ op'.length = p.op.length + j := by
  have hc : wr.cell? ⟨b0, 9, none⟩ = some (.slice A' op'.length c') := h.blk.cell 9
  refine ⟨by unfold lenAt; rw [hc], ?_⟩
  rw [h.hop, List.length_append, List.length_replicate]
theorem Lp.pad {w5 wr : World} {b0 : Nat} {p : Pk} {op' : List UInt8} {j : Nat} {A' : Option Addr} {c' : Nat} {B : Option Addr} {e : Nat} (h : Lp w5 wr b0 p op' j A' c' B e) (h4 : op'.length % 4 = 0) : op' = padO p.op := by
  have h1 := h.len.2
  have h2 := h.hj
  have hj : j = sizeP p.op.length - 20 - p.op.length := by unfold sizeP at *; omega
  rw [h.hop, hj]; rfl
theorem tm4 (n : Nat) : ((n : Int).tmod 4) = ((n % 4 : Nat) : Int) := by rw [Int.tmod_eq_emod_of_nonneg (by omega)]; omega
theorem pad_isPk {W : World} {p : Pk} {A4 A5 : Option Addr} {k4 k5 base : Nat} (ow1 : W.ownsRow base 5 1 (.slice A4 (sizeP p.op.length - 20) k4) (sizeP p.op.length - 20) (Lib.byteCells (padP p).op)) (ow2 : W.ownsRow base 5 1 (.slice A5 p.da.length k5) p.da.length (Lib.byteCells (padP p).da))
    (hz : sizeP p.op.length ≤ 60) (hd : p.da.length ≤ 70000) (ho : i64 p.off) (hfr : p.fr < 4294967296) (hto : p.to_ < 4294967296) : IsPk W (padP p) (.slice A4 (sizeP p.op.length - 20) k4) (.slice A5 p.da.length k5) := by
  have hpo : (padP p).op.length = sizeP p.op.length - 20 := padO_len p.op
  obtain ⟨f1, f2, f3⟩ := own_rd ow1
  obtain ⟨h1, h2, h3⟩ := own_rd ow2
  exact ⟨⟨A4, k4, by rw [hpo], f2, by rw [hpo]; exact f3⟩, ⟨A5, k5, rfl, h2, h3⟩, ho, hfr, hto, by rw [hpo]; omega, by show p.da.length ≤ _; omega⟩
set_option maxHeartbeats 6400000 in
set_option maxRecDepth 10000 in
theorem ipBack_walk (w : World) (p : Pk) (o d : Value) (M : Option Addr) (cm : Nat) (mo : List UInt8) (h : AnyPk w p o d) (hM : Bytes w M mo) (hml : mo.length ≤ maxLen) (hE : Env w) : Calls Tryd.prog 8 #[.agg (p.cs o d).toArray, .slice M mo.length cm] w fun e w' => e = .returned (.bool true) ∧ Below w.heap.size w w' := by
  have HE := Lib.hid hE; clear hE
  have B0 := Lib.hid (al (rf w) (.cells (p.cs o d).toArray 26))
  have HB := Lib.hid (Blk.new w 26 (p.cs o d).toArray)
  have HB2 := Lib.hid HB.out
  have HA := Lib.hid h
  have HL := Lib.hid (longC _ p o d (⟨h.o.imp fun A ⟨c, h1, h2, h3⟩ => ⟨c, h1, h2.nx B0.out, h3⟩, h.d.imp fun A ⟨c, h1, h2, h3⟩ => ⟨c, h1, h2.nx B0.out, h3⟩, h.off, h.fr, h.to_, h.ol, h.dl⟩ : AnyPk (w.alloc (.cells (p.cs o d).toArray 26)) p o d))
  have hfr := h.fr
  have hto := h.to_
  obtain ⟨⟨A, c, rfl, hb1, hc1⟩, ⟨B, e, rfl, hb2, hc2⟩, _, _, _, _, _⟩ := h
  have HO := Lib.hid hb1
  have HD := Lib.hid hb2
  have HM := Lib.hid hM
  have HC1 := Lib.hid hc1
  have HC2 := Lib.hid hc2
  clear hb1 hb2 hM hc1 hc2
  by_cases hlg : 70000 < p.da.length ∨ 4000 < p.op.length
  · have hv : (decide (70000 < p.da.length) || decide (4000 < p.op.length)) = true := by rcases hlg with h | h <;> simp [h]
    rw [hv] at HL
    unfold Pk.cs at HB
    go_enter Tryd.func8, Tryd.ntmps8
    go_wp2_with ((with_reducible refine wpList_load_blk rfl 26 2 rfl w.heap.size 0 11 (by kernel_rfl) 26 _ (p.cs (.slice A p.op.length c) (.slice B p.da.length e)) HB2.out (by kernel_rfl) _ Tryd.underlying26 (by kernel_rfl) (by kernel_rfl) ?_))
    refine HL.out.mono ?_
    rintro e1 w1 ⟨rfl, b1⟩
    go_wp2
    go_ret
    exact ⟨rfl, nx B0.out b1⟩
  have hv : (decide (70000 < p.da.length) || decide (4000 < p.op.length)) = false := by simp; omega
  have HP := Lib.hid (HA.out.is (by omega) (by omega))
  rw [hv] at HL
  clear hv hlg HA
  by_cases hmo : 4000 < mo.length
  · have i1 : (4000 : Int) < mo.length := by omega
    unfold Pk.cs at HB
    go_enter Tryd.func8, Tryd.ntmps8
    go_wp2_with ((with_reducible refine wpList_load_blk rfl 26 2 rfl w.heap.size 0 11 (by kernel_rfl) 26 _ (p.cs (.slice A p.op.length c) (.slice B p.da.length e)) HB2.out (by kernel_rfl) _ Tryd.underlying26 (by kernel_rfl) (by kernel_rfl) ?_))
    refine HL.out.mono ?_
    rintro e1 w1 ⟨rfl, b1⟩
    go_wp2
    go_ret
    exact ⟨rfl, nx B0.out b1⟩
  have i1 : ¬ (4000 : Int) < mo.length := by omega
  have hmo2 : mo.length ≤ 4000 := by omega
  unfold Pk.cs at HB
  go_enter Tryd.func8, Tryd.ntmps8
  go_wp2_with ((with_reducible refine wpList_load_blk rfl 26 2 rfl w.heap.size 0 11 (by kernel_rfl) 26 _ (p.cs (.slice A p.op.length c) (.slice B p.da.length e)) HB2.out (by kernel_rfl) _ Tryd.underlying26 (by kernel_rfl) (by kernel_rfl) ?_))
  refine HL.out.mono ?_
  rintro e1 w1 ⟨rfl, b1⟩
  have B1 := Lib.hid (nx B0.out b1)
  have HB1 := Lib.hid (HB2.out.nx b1)
  clear b1 HB HB2 HL B0
  go_wp2_with ((with_reducible refine wpList_load_blk rfl 26 2 rfl w.heap.size 0 11 (by kernel_rfl) 26 _ (p.cs (.slice A p.op.length c) (.slice B p.da.length e)) HB1.out (by kernel_rfl) _ Tryd.underlying26 (by kernel_rfl) (by kernel_rfl) ?_))
  refine (encC w1 p _ _ (HP.out.nx B1.out)).mono ?_
  rintro e2 w2 (⟨hm, v, rfl, own, b2⟩ | ⟨hm, rfl, b2⟩)
  rotate_left
  · obtain ⟨Mx, hMx⟩ : ∃ Mx, Mx = mayI p := ⟨_, rfl⟩
    have y1 : (Mx != 0) = true := by rw [bne_iff_ne, hMx]; exact hm
    rw [← hMx]
    clear hm hMx
    have B2 := Lib.hid (nx B1.out b2)
    go_wp2_with fail
    refine (known w2 (HE.out.nx B2.out)).mono ?_
    rintro e3 w3 ⟨rfl, b3⟩
    go_wp2
    go_ret
    exact ⟨rfl, nx B2.out b3⟩
  have OK := Lib.hid (okP_of hm)
  have HMAY := Lib.hid hm
  have B2 := Lib.hid (nx B1.out b2)
  have HB2 := Lib.hid (HB1.out.nx b2)
  have hb0 := HB1.out.lt
  have hsz := size_facts p OK.out
  have hlen := encP_len p
  have hle := OK.out.len
  obtain ⟨g, cap, hv, hgb, hgl, hcap, hcm, _⟩ := own_form own (by omega)
  subst hv
  have DE := Lib.hid (dec_enc p OK.out hfr hto mo)
  obtain ⟨L, hL⟩ : ∃ L, L = encP p := ⟨_, rfl⟩
  rw [← hL] at own hcap hlen DE ⊢
  have OWN := Lib.hid own
  have HLE := Lib.hid hL
  have hn1 : L.length ≤ 65535 := by omega
  have HLEN := Lib.hid hlen
  have HLZ := Lib.hid hle
  clear own hm hL b2 hlen hle
  go_wp2_with (at_builtin; refine app_keeps stB rfl (.tmp 35) (.tmp 36) rfl w1.heap.size g L.length cap (Lib.byteCells L) rfl OWN.out M mo.length cm (Lib.byteCells mo) rfl (HM.out.nx B2.out) (one_u8 mo) (by omega) (by omega) ?_; intro A3 c3 w3 rd3 gr3 keep3 hle3)
  have HY3 : Hid (Bytes w3 A3 (L ++ mo)) := by
    show Reads _ _ _ _ _ _
    rw [List.length_append, byteCells_app]; exact rd3
  have HK3 : Hid (Bytes w3 (some ⟨g, 0, none⟩) L) := keep3
  have hbg : w.heap.size ≠ g := by have := HB1.out.lt; omega
  have HBX3 := Lib.hid (HB2.out.only gr3 hbg)
  have B3 := Lib.hid (B2.out.trans (below_only gr3 (by omega) B2.out.size))
  have hg3 : g < w3.heap.size := Nat.lt_of_lt_of_le hgl gr3.size
  have HNE := Lib.hid hbg
  have HD3 := Lib.hid (decC w3 A3 (L ++ mo) (L.length + mo.length) c3 HY3.out (by rw [List.length_append]) (by rw [List.length_append]; exact hle3) (by rw [List.length_append]; omega) DE.out.1)
  clear rd3 gr3 keep3 hbg
  refine HD3.out.mono ?_
  rintro e4 w4 (⟨_, o2, d2, rfl, ow1, ow2, b4⟩ | ⟨hbad, _, _⟩)
  rotate_left
  · exact absurd DE.out.2.2.1 hbad
  rw [DE.out.2.1] at ow1 ow2 ⊢
  rw [DE.out.2.2.2.1] at ow1 ow2
  rw [DE.out.2.2.2.2, Nat.add_sub_cancel_left] at ow2
  obtain ⟨A4, k4, rfl⟩ := own_slice ow1
  obtain ⟨A5, k5, rfl⟩ := own_slice ow2
  have OW1 := Lib.hid ow1
  have OW2 := Lib.hid ow2
  have HMAYP := Lib.hid (may_pad p HMAY.out)
  have HEP : Hid (encP (padP p) = L) := by show _ = _; rw [enc_pad, HLE.out]
  have HZ4 : Hid (Blk (w4.alloc (.cells #[.int .i64 0, .int .i64 0, .bool false, .bool false, .int .i64 0, .int .i64 0, .int .i64 0, .int .u32 0, .int .u32 0, .slice none 0 0, .slice none 0 0] 26)) w4.heap.size 26 zCs.toArray) := Blk.new w4 _ _
  have hs34 := b4.size
  have B4 := Lib.hid (B3.out.trans (b4.mono (by have := B3.out.size; omega)))
  have HBX4 := Lib.hid (HBX3.out.nx b4)
  have HK4 := Lib.hid (HK3.out.nx b4)
  obtain ⟨qc, hqc⟩ : ∃ qc : List Value, qc = (padP p).cs (.slice A4 (sizeP p.op.length - 20) k4) (.slice A5 p.da.length k5) := ⟨_, rfl⟩
  have hq1 : qc.toArray.all (·.oneCell') = true := by rw [hqc]; simp [Pk.cs, Value.oneCell']
  have hq2 : qc.toArray.size = 11 := by rw [hqc]; rfl
  have hq3 : (Tryd.prog.info? 26).map (·.size) = some qc.toArray.size := by rw [hq2]; kernel_rfl
  have hq4 : zCs.toArray.size = qc.toArray.size := by rw [hq2]; rfl
  rw [← hqc]
  have HQC := Lib.hid hqc
  clear ow1 ow2 hqc b4
  go_wp2_with (refine wpList_store_row rfl 26 (.tmp 8) (.tmp 39) rfl _ qc.toArray rfl rfl _ _ HZ4.out hq3 hq4 hq1 ?_)
  have b5 : Below w4.heap.size w4 ((w4.alloc (.cells #[.int .i64 0, .int .i64 0, .bool false, .bool false, .int .i64 0, .int .i64 0, .int .i64 0, .int .u32 0, .int .u32 0, .slice none 0 0, .slice none 0 0] 26)).setRow w4.heap.size qc.toArray) := below_setRow (al (rf w4) _) (Nat.le_refl _) _
  have Q5 : Blk ((w4.alloc (.cells #[.int .i64 0, .int .i64 0, .bool false, .bool false, .int .i64 0, .int .i64 0, .int .i64 0, .int .u32 0, .int .u32 0, .slice none 0 0, .slice none 0 0] 26)).setRow w4.heap.size qc.toArray) w4.heap.size 26 qc.toArray := setRow_heap _ _ _ _ _ _ HZ4.out
  generalize hw5 : (w4.alloc (.cells #[.int .i64 0, .int .i64 0, .bool false, .bool false, .int .i64 0, .int .i64 0, .int .i64 0, .int .u32 0, .int .u32 0, .slice none 0 0, .slice none 0 0] 26)).setRow w4.heap.size qc.toArray = w5 at b5 Q5 ⊢
  clear hw5 HZ4
  have hwq : Hid (w.heap.size < w4.heap.size) := by show _ < _; have := HBX4.out.lt; exact this
  generalize hqq : w4.heap.size = q at b5 Q5 hwq ⊢
  have HQ5 := Lib.hid Q5
  have HQL := Lib.hid (show w4.heap.size = q from hqq)
  have OW15 := Lib.hid (own_nx2 OW1.out (by rw [hqq]; exact b5))
  have OW25 := Lib.hid (own_nx2 OW2.out (by rw [hqq]; exact b5))
  have HBA := Lib.hid (show w.heap.size < w3.heap.size from HBX3.out.lt)
  have HBX5 := Lib.hid (HBX4.out.nx (by rw [hqq]; exact b5))
  have HK5 := Lib.hid (HK4.out.nx (by rw [hqq]; exact b5))
  have B5 := Lib.hid (nx B4.out (by rw [hqq]; exact b5))
  clear hqq b5 Q5 hq1 hq2 hq3 hq4 hs34 OW1 OW2 HBX4 HK4 B4 HBX3 HK3 B3 hgb hgl hcm hg3
  have LP0 : Hid (Lp w5 w5 w.heap.size p p.op 0 A c B e) :=
    ⟨by simp, Nat.zero_le _, HBX5.out, HO.out.nx B5.out, HC1.out, World.grownBy.refl _ _⟩
  go_loopw [43] (fun _ wr => ∃ op' j A' c', Hid (Lp w5 wr w.heap.size p op' j A' c' B e)) (fun _ wr => 100 - lenAt wr w.heap.size)
  case atStart => exact ⟨_, _, _, _, LP0⟩
  case round =>
    obtain ⟨op', j, A', c', LP⟩ := hrel
    have htm := tm4 op'.length
    have hc9 : wr.cell? ⟨w.heap.size, 9, none⟩ = some (.slice A' op'.length c') := LP.out.blk.cell 9
    have hf9 := LP.out.blk.frozen 9
    have hlw := LP.out.blk.lt
    have hol : op'.length ≤ 60 := by have := LP.out.len.2; have := LP.out.hj; have := OK.out.ol; omega
    by_cases h4 : op'.length % 4 = 0
    · have HPAD := Lib.hid (LP.out.pad h4)
      rw [h4] at htm
      have hwq' := hwq.out
      have BW := Lib.hid (B5.out.trans (below_only LP.out.o (Nat.le_refl _) B5.out.size))
      have QW : Hid (Blk wr q 26 ((padP p).cs (.slice A4 (sizeP p.op.length - 20) k4) (.slice A5 p.da.length k5)).toArray) := by
        show Blk _ _ _ _
        rw [← HQC.out]; exact HQ5.out.only LP.out.o (by omega)
      have HKW : Hid (Bytes wr (some ⟨g, 0, none⟩) L) := bytes_only HK5.out LP.out.o (by rintro ad e; injection e with e; subst e; exact fun e => HNE.out e.symm)
      have IPW : Hid (IsPk wr (padP p) (.slice A4 (sizeP p.op.length - 20) k4) (.slice A5 p.da.length k5)) := pad_isPk (own_only OW15.out LP.out.o HBA.out) (own_only OW25.out LP.out.o HBA.out) hsz.2.1 (by have := HLZ.out; omega) HP.out.off hfr hto
      have IPO : Hid (IsPk wr (padP p) (.slice A' op'.length c') (.slice B p.da.length e)) :=
        ⟨⟨A', c', by rw [HPAD.out]; rfl, by have := LP.out.row; rw [HPAD.out] at this; exact this, by have := LP.out.cap; rw [HPAD.out] at this; exact this⟩, ⟨B, e, rfl, HD.out.nx BW.out, HC2.out⟩, HP.out.off, hfr, hto, by have := LP.out.len.2; show (padO p.op).length ≤ _; rw [← HPAD.out]; omega, by show p.da.length ≤ _; have := HLZ.out; omega⟩
      have kk0 : wr.cell? ⟨w.heap.size, 0, none⟩ = some (.int .i64 p.sv) := LP.out.blk.cell 0
      have kk1 : wr.cell? ⟨w.heap.size, 1, none⟩ = some (.int .i64 p.id) := LP.out.blk.cell 1
      have kk2 : wr.cell? ⟨w.heap.size, 2, none⟩ = some (.bool p.wh) := LP.out.blk.cell 2
      have kk3 : wr.cell? ⟨w.heap.size, 3, none⟩ = some (.bool p.mo) := LP.out.blk.cell 3
      have kk4 : wr.cell? ⟨w.heap.size, 4, none⟩ = some (.int .i64 p.off) := LP.out.blk.cell 4
      have kk5 : wr.cell? ⟨w.heap.size, 5, none⟩ = some (.int .i64 p.lf) := LP.out.blk.cell 5
      have kk6 : wr.cell? ⟨w.heap.size, 6, none⟩ = some (.int .i64 p.pr) := LP.out.blk.cell 6
      have kk7 : wr.cell? ⟨w.heap.size, 7, none⟩ = some (.int .u32 p.fr) := LP.out.blk.cell 7
      have kk8 : wr.cell? ⟨w.heap.size, 8, none⟩ = some (.int .u32 p.to_) := LP.out.blk.cell 8
      have kk10 : wr.cell? ⟨w.heap.size, 10, none⟩ = some (.slice B p.da.length e) := LP.out.blk.cell 10
      have m0 : wr.cell? ⟨q, 0, none⟩ = some (.int .i64 p.sv) := QW.out.cell 0
      have m1 : wr.cell? ⟨q, 1, none⟩ = some (.int .i64 p.id) := QW.out.cell 1
      have m2 : wr.cell? ⟨q, 2, none⟩ = some (.bool p.wh) := QW.out.cell 2
      have m3 : wr.cell? ⟨q, 3, none⟩ = some (.bool p.mo) := QW.out.cell 3
      have m4 : wr.cell? ⟨q, 4, none⟩ = some (.int .i64 p.off) := QW.out.cell 4
      have m5 : wr.cell? ⟨q, 5, none⟩ = some (.int .i64 p.lf) := QW.out.cell 5
      have m6 : wr.cell? ⟨q, 6, none⟩ = some (.int .i64 p.pr) := QW.out.cell 6
      have m7 : wr.cell? ⟨q, 7, none⟩ = some (.int .u32 p.fr) := QW.out.cell 7
      have m8 : wr.cell? ⟨q, 8, none⟩ = some (.int .u32 p.to_) := QW.out.cell 8
      have m9 : wr.cell? ⟨q, 9, none⟩ = some (.slice A4 (sizeP p.op.length - 20) k4) := QW.out.cell 9
      have m10 : wr.cell? ⟨q, 10, none⟩ = some (.slice A5 p.da.length k5) := QW.out.cell 10
      have lc : (L.length : Int) ≤ cap := by omega
      have l0 : (0 : Int) ≤ L.length := by omega
      clear hwq' h4 hol hlw hf9
      go_wp2_with fail
      refine (packE wr (padP p) (.slice A' op'.length c') (.slice B p.da.length e) (.slice A4 (sizeP p.op.length - 20) k4) (.slice A5 p.da.length k5) IPO.out IPW.out).mono ?_
      rintro e6 w6 ⟨rfl, b6⟩
      have Q6 := Lib.hid (QW.out.nx b6)
      have IP6 := Lib.hid (IPW.out.nx b6)
      have HK6 := Lib.hid (HKW.out.nx b6)
      have B6 := Lib.hid (nx BW.out b6)
      clear b6
      go_wp2_with ((with_reducible refine wpList_load_blk rfl 26 8 rfl q 0 11 (by kernel_rfl) 26 _ ((padP p).cs (.slice A4 (sizeP p.op.length - 20) k4) (.slice A5 p.da.length k5)) Q6.out (by kernel_rfl) _ Tryd.underlying26 (by kernel_rfl) (by kernel_rfl) ?_))
      refine (encC w6 (padP p) _ _ IP6.out).mono ?_
      rintro e7 w7 (⟨_, v7, rfl, own7, b7⟩ | ⟨hbad, _, _⟩)
      rotate_left
      · exact absurd HMAYP.out hbad
      rw [HEP.out] at own7
      obtain ⟨A7, k7, rfl⟩ := own_slice own7
      obtain ⟨_, Y7, _⟩ := own_rd own7
      have HY7 := Lib.hid Y7
      have HK7 := Lib.hid (HK6.out.nx b7)
      have B7 := Lib.hid (nx B6.out b7)
      clear own7 Y7 b7
      go_wp2_with fail
      refine (same_ _ A7 (some ⟨g, 0, none⟩) L L _ _ k7 cap HY7.out HK7.out rfl rfl (by omega) (by omega)).mono ?_
      rintro e8 w8 ⟨rfl, b8⟩
      rw [show (L == L) = true by simp]
      have B8 := Lib.hid (nx B7.out b8)
      go_wp2_with fail
      refine (known w8 (HE.out.nx B8.out)).mono ?_
      rintro e9 w9 ⟨rfl, b9⟩
      go_wp2
      go_ret
      exact ⟨rfl, nx B8.out b9⟩
    · obtain ⟨r4, hr4⟩ : ∃ r4, r4 = op'.length % 4 := ⟨_, rfl⟩
      rw [← hr4] at htm
      have y4 : ((r4 : Int) != 0) = true := by rw [bne_iff_ne]; omega
      have HR4 := Lib.hid (show op'.length % 4 ≠ 0 from h4)
      clear h4 hr4
      go_wp2_with (first
        | (at_builtin
           refine app_any stB rfl (.tmp 46) (.tmp 48) rfl wr.heap.size _ 0 [] rfl (own_lit _ #[] 0 ?b1 (by omega) (by decide) rfl) A' op'.length c' (Lib.byteCells op') rfl (LP.out.row.nx (al (rf wr) _)) (one_u8 op') (by omega) (by omega) ?b2 ?_
           case b1 => simp
           case b2 => simp
           intro v1 w1' own1 gr1 at1 bel1)
        | (at_builtin
           refine app_any stB rfl (.tmp 49) (.tmp 50) rfl wr.heap.size v1 _ _ rfl (own1.alloc _) _ 1 _ [.int .u8 0] rfl (Reads.one (blk_at _ _ _ ?b4)) (by simp [Value.oneCell']) (by omega) (by omega) ?b3 ?_
           case b4 => simp
           case b3 => have := bel1.size; simp at this ⊢; omega
           intro v2 w2' own2 gr2 at2 bel2
           have kk : Below wr.heap.size wr w2' := ((al (rf wr) _).trans bel1).trans (((Below.refl _ _).alloc (by have := bel1.size; simp at this; omega) _).trans bel2)
           obtain ⟨g', cap', rfl, hg', hg2', hcap', hcm', _⟩ := own_form own2 (by omega)
           have c9' : w2'.cell? ⟨w.heap.size, 9, none⟩ = some (.slice A' op'.length c') := (LP.out.blk.nx kk).cell 9
           have f9' : w2'.frozen? ⟨w.heap.size, 9, none⟩ = false := (LP.out.blk.nx kk).frozen 9))
      have HN : Lp w5 (w2'.setCell ⟨w.heap.size, 9, none⟩ (.slice (some ⟨g', 0, none⟩) (op'.length + 1) cap')) w.heap.size p (op' ++ [0]) (j + 1) (some ⟨g', 0, none⟩) cap' B e := by
        have e1 : (op' ++ [0]).length = op'.length + 1 := by simp
        have hl := LP.out.len.2
        have hj := LP.out.hj
        have h4 := HR4.out
        have hj2 : j < sizeP p.op.length - 20 - p.op.length := by
          unfold sizeP at *; omega
        have ow : w2'.ownsRow wr.heap.size 5 1 (.slice (some ⟨g', 0, none⟩) (op' ++ [0]).length cap') (op' ++ [0]).length (Lib.byteCells (op' ++ [0])) := by
          rw [e1, byteCells_app]
          rw [Nat.zero_add] at own2
          exact own2
        refine ⟨?_, by omega, ?_, Bytes.own (own_only ow setB_ hlw), by rw [e1]; omega, only_trans LP.out.o (only_trans (only_of kk) setB_)⟩
        · rw [LP.out.hop, List.append_assoc, List.replicate_succ']
        · have := (LP.out.blk.nx kk).set_ 9 (.slice (some ⟨g', 0, none⟩) (op'.length + 1) cap')
          rw [List.setIfInBounds_toArray] at this
          rw [e1]
          exact this
      refine ⟨⟨_, _, _, _, HN⟩, ?_⟩
      have x1 := HN.len.1
      have x2 := LP.out.len.1
      rw [x1, x2, List.length_append, List.length_singleton]
      omega
end Go.Proofs.YthjpdaflgphbbaaDoor
